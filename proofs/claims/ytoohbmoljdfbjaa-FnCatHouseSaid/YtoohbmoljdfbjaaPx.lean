-- made by wip/prt/pp.py over the kit's print
import Derived.Test.YtoohbmoljdfbjaaPx0
import Derived.Test.YtoohbmoljdfbjaaPx1
import Derived.Test.YtoohbmoljdfbjaaPx2
import Derived.Test.YtoohbmoljdfbjaaPx3
import Derived.Test.YtoohbmoljdfbjaaPx4
import Derived.Test.YtoohbmoljdfbjaaPx5
import Derived.Test.YtoohbmoljdfbjaaPx6
import Derived.Test.YtoohbmoljdfbjaaPx7
namespace Go.Proofs.Ytoohbmoljdfbjaa.P
open Go.RowKit Go.Proofs.YtoohbmoljdfbjaaW.PrintWords Go.Proofs.YtoohbmoljdfbjaaW.PrintLast Go.Proofs.YtoohbmoljdfbjaaW.PrintMore
attribute [local go_sem] max2_int min2_int max_two min_two max_three min_three max_four min_four   -- for this text's walks alone
set_option linter.unusedVariables false
set_option linter.unusedSimpArgs false
end Go.Proofs.Ytoohbmoljdfbjaa.P
