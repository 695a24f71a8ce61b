-- made by wip/prt/pp.py over the kit's print
import Derived.Test.YtagdiodhdnebaaaDoorPx0
import Derived.Test.YtagdiodhdnebaaaDoorPx1
import Derived.Test.YtagdiodhdnebaaaDoorPx2
import Derived.Test.YtagdiodhdnebaaaDoorPx3
import Derived.Test.YtagdiodhdnebaaaDoorPx4
import Derived.Test.YtagdiodhdnebaaaDoorPx5
import Derived.Test.YtagdiodhdnebaaaDoorPx6
namespace Go.Proofs.YtagdiodhdnebaaaDoor.P
open Go.RowKit Go.Proofs.YtagdiodhdnebaaaDoorW.PrintWords Go.Proofs.YtagdiodhdnebaaaDoorW.PrintLast Go.Proofs.YtagdiodhdnebaaaDoorW.PrintMore
attribute [local go_sem] max2_int min2_int max_two min_two max_three min_three max_four min_four   -- for this text's walks alone
set_option linter.unusedVariables false
set_option linter.unusedSimpArgs false

end Go.Proofs.YtagdiodhdnebaaaDoor.P
