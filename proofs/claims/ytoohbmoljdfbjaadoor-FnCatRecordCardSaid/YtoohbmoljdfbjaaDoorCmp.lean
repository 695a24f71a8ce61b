/- cmp.Compare at strings, in the print's contract form. -/
import Derived.Test.YtoohbmoljdfbjaaDoorPx0
import Derived.Laws.Cover1
set_option linter.unusedVariables false
namespace Go.Proofs.YtoohbmoljdfbjaaDoor.P
open Go.RowKit Go.Proofs.YtoohbmoljdfbjaaDoorW.PrintWords
def cmpB (a b : ByteArray) : Int := if Op.bytesLess a.toList b.toList = true then -1 else if (a.toList == b.toList) = true then 0 else 1
def cmp_Compare_string.f (a0 a1 : ByteArray) : Option Int := some (cmpB a0 a1)
theorem isNaN_string (a : ByteArray) (w : World) : Calls Tryd.prog 55 #[.string a] w fun e w' => e = .returned (.bool false) ∧ w' = w := by
  go_enter Tryd.func55, Tryd.ntmps55
  go_wp2
  go_ret
  exact ⟨by simp, rfl⟩
theorem cmp_Compare_string.calls (a0 a1 : ByteArray) (r : Int) (w : World) (h : cmp_Compare_string.f a0 a1 = some r) :
    Calls Tryd.prog 44 #[.string a0, .string a1] w fun e w' => e = .returned (.int .i64 r) ∧ Drawn0 w w' := by
  unfold cmp_Compare_string.f at h
  obtain rfl := Option.some.inj h
  clear h
  unfold cmpB
  cases h1 : Op.bytesLess a0.toList a1.toList with
  | true =>
    rw [if_pos rfl]
    go_enter Tryd.func44, Tryd.ntmps44
    go_wp2_with (go_at_call 55; refine (isNaN_string _ _).mono ?_; rintro e w' ⟨rfl, rfl⟩)
    go_ret
    exact ⟨rfl, Drawn0.refl _⟩
  | false =>
    rw [if_neg (by decide)]
    cases h2 : a0.toList == a1.toList with
    | true =>
      rw [if_pos rfl]
      go_enter Tryd.func44, Tryd.ntmps44
      go_wp2_with (go_at_call 55; refine (isNaN_string _ _).mono ?_; rintro e w' ⟨rfl, rfl⟩)
      go_ret
      exact ⟨rfl, Drawn0.refl _⟩
    | false =>
      rw [if_neg (by decide)]
      go_enter Tryd.func44, Tryd.ntmps44
      go_wp2_with (go_at_call 55; refine (isNaN_string _ _).mono ?_; rintro e w' ⟨rfl, rfl⟩)
      go_ret
      exact ⟨rfl, Drawn0.refl _⟩
end Go.Proofs.YtoohbmoljdfbjaaDoor.P
