/- Plain law of the records: one thing, reckoned out. -/
import Derived.Test.YtoohbmoljdfbjaaDoorPRec0
import Derived.KernelRfl
namespace Go.Proofs.YtoohbmoljdfbjaaDoor.P
open Go.RowKit Go.Proofs.YtoohbmoljdfbjaaDoorW.PrintWords
theorem r3_0_2 : rest 60 0 (⟨#[98]⟩ : ByteArray) (tx 300) = some true := by kernel_rfl
theorem r3_0_3 : rest 60 0 (⟨#[100, 100]⟩ : ByteArray) (tx 300) = some true := by kernel_rfl
end Go.Proofs.YtoohbmoljdfbjaaDoor.P
