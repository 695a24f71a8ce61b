/- Plain law of the records: the few things that are drawn. -/
import Derived.Test.YtoohbmoljdfbjaaDoorPCat0
import Derived.KernelRfl
set_option linter.unusedVariables false
set_option linter.unusedSimpArgs false
namespace Go.Proofs.YtoohbmoljdfbjaaDoor.P
open Go.RowKit Go.Proofs.YtoohbmoljdfbjaaDoorW.PrintWords Go.Proofs.YtoohbmoljdfbjaaDoorW.PrintMore
def houses : List Int := [0, 1, 0, 1, 2, (-1)]
def names : List ByteArray := [(⟨#[97]⟩ : ByteArray), (⟨#[99, 99]⟩ : ByteArray), (⟨#[98]⟩ : ByteArray), (⟨#[100, 100]⟩ : ByteArray), (⟨#[]⟩ : ByteArray), (⟨#[65]⟩ : ByteArray)]
def tx (n : Nat) : ByteArray := ⟨(List.replicate n 116).toArray⟩
def texts : List ByteArray := [(⟨#[]⟩ : ByteArray), (⟨#[116, 101, 120, 116]⟩ : ByteArray), (⟨#[97, 58, 98, 10]⟩ : ByteArray), tx 300, tx 301]
def rest (k : Nat) (h : Int) (n t : ByteArray) : Option Bool := (impl_CatRecord.f k h n t).bind fun t264 => ((spec_CatRecord.f k h n t).bind fun t265 => (if t264.toList = t265.toList then (if t264.toList = ([] : List UInt8) then (laws_FnCatRecord.j0 k h n t t264 true) else (laws_FnCatRecord.j0 k h n t t264 (t.toList == ([] : List UInt8)))) else (laws_FnCatRecord.j0 k h n t t264 true)))
theorem rest_mono (h : Int) (n t : ByteArray) : ∀ k, LeO (rest k h n t) (rest (k + 1) h n t) := by
  intro k
  obtain ⟨ih0, ih1⟩ := laws_FnCatRecord.mono_l k
  unfold rest
  repeat' first
    | (with_reducible exact ih0 _ _ _ _ _)
    | (with_reducible exact impl_CatRecord.mono _ _ _ _)
    | (with_reducible exact spec_CatRecord.mono _ _ _ _)
    | (with_reducible exact LeO.refl _)
    | (with_reducible refine LeO.ite ?_ ?_)
    | (with_reducible refine LeO.bind ?_ (fun _ => ?_))
end Go.Proofs.YtoohbmoljdfbjaaDoor.P
