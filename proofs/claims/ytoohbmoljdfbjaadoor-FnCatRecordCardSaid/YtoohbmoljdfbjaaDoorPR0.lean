/- Plain law of the records: one thing, reckoned out. -/
import Derived.Test.YtoohbmoljdfbjaaDoorPRec0
import Derived.KernelRfl
namespace Go.Proofs.YtoohbmoljdfbjaaDoor.P
open Go.RowKit Go.Proofs.YtoohbmoljdfbjaaDoorW.PrintWords
theorem r3_0_0 : rest 60 0 (⟨#[97]⟩ : ByteArray) (tx 300) = some true := by kernel_rfl
theorem r3_0_1 : rest 60 0 (⟨#[99, 99]⟩ : ByteArray) (tx 300) = some true := by kernel_rfl
end Go.Proofs.YtoohbmoljdfbjaaDoor.P
