-- made by wip/prt/pp.py over the kit's print
import Derived.Test.YtoohbmoljdfbjaaDoorPx0
import Derived.Test.YtoohbmoljdfbjaaDoorPx1
import Derived.Test.YtoohbmoljdfbjaaDoorPx2
import Derived.Test.YtoohbmoljdfbjaaDoorPx3
import Derived.Test.YtoohbmoljdfbjaaDoorPx4
import Derived.Test.YtoohbmoljdfbjaaDoorPx5
import Derived.Test.YtoohbmoljdfbjaaDoorPx6
import Derived.Test.YtoohbmoljdfbjaaDoorPx7
namespace Go.Proofs.YtoohbmoljdfbjaaDoor.P
open Go.RowKit Go.Proofs.YtoohbmoljdfbjaaDoorW.PrintWords Go.Proofs.YtoohbmoljdfbjaaDoorW.PrintLast Go.Proofs.YtoohbmoljdfbjaaDoorW.PrintMore
attribute [local go_sem] max2_int min2_int max_two min_two max_three min_three max_four min_four   -- for this text's walks alone
set_option linter.unusedVariables false
set_option linter.unusedSimpArgs false
end Go.Proofs.YtoohbmoljdfbjaaDoor.P
