/- Plain law of the records: one thing, reckoned out. -/
import Derived.Test.YtoohbmoljdfbjaaDoorPRec0
import Derived.KernelRfl
namespace Go.Proofs.YtoohbmoljdfbjaaDoor.P
open Go.RowKit Go.Proofs.YtoohbmoljdfbjaaDoorW.PrintWords
theorem r3_1_0 : rest 60 1 (⟨#[97]⟩ : ByteArray) (tx 300) = some true := by kernel_rfl
theorem r3_1_1 : rest 60 1 (⟨#[99, 99]⟩ : ByteArray) (tx 300) = some true := by kernel_rfl
end Go.Proofs.YtoohbmoljdfbjaaDoor.P
