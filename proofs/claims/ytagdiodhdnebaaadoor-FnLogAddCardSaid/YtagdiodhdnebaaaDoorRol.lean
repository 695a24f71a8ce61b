/- impl.rolled: the walk. -/
import Derived.Test.YtagdiodhdnebaaaDoorShaDef
import Derived.Test.YtagdiodhdnebaaaDoorPx0
import Derived.BigQuiet
set_option linter.unusedVariables false
set_option linter.unusedSimpArgs false
namespace Go.Proofs.YtagdiodhdnebaaaDoor.P
open Go.RowKit Go.Proofs.YtagdiodhdnebaaaDoorW.PrintWords Go.Proofs.YtagdiodhdnebaaaDoorW.PrintLast Go.Proofs.YtagdiodhdnebaaaDoorW.PrintMore
set_option maxHeartbeats 4000000 in
theorem rolled_calls (x n : Int) (h0 : 0 ≤ n) (h1 : n ≤ 32) (w : World) :
    Calls Tryd.prog 67 #[.int .u32 x, .int .i64 n] w fun e w' => e = .returned (.int .u32 (turn x n)) ∧ ∃ m, w' = w.drewN m := by
 have hm := Aside0.mk h1
 have hn := Aside0.mk h0
 have c3b0 := eq_true h0
 have c3b1 : decide (0 ≤ n) = true := decide_eq_true h0
 clear h0 h1
 obtain ⟨ji4, hji4⟩ : ∃ j_ : Int, (shr .u32 x n) = j_ := ⟨_, rfl⟩
 have hji4_ : (x / 2 ^ min n.toNat 32) = ji4 := hji4
 have hji4z : n ≤ 32 → (x / 2 ^ n.toNat) = ji4 := shr_small hji4
 obtain ⟨ji5, hji5⟩ : ∃ j_ : Int, (wrap64 (32 - n)) = j_ := ⟨_, rfl⟩
 have hj5 : ji5 = 32 - n := by rw [← hji5]; unfold wrap64; have := hm.out; have := hn.out; omega
 have hj5a := Aside0.mk hj5
 have hji5w : (IntKind.i64.wrap (32 - n)) = ji5 := (i64_w _).trans hji5
 have c6 : 0 ≤ ji5 := by have := hm.out; omega
 have c6b0 := eq_true c6
 have c6b1 : decide (0 ≤ (ji5)) = true := decide_eq_true c6
 clear c6 hj5
 obtain ⟨ji7, hji7⟩ : ∃ j_ : Int, (shl .u32 x (ji5)) = j_ := ⟨_, rfl⟩
 have hji7_ : (IntKind.u32.wrap (x * 2 ^ min (ji5).toNat 32)) = ji7 := hji7
 have hji7z : (ji5) ≤ 32 → (IntKind.u32.wrap (x * 2 ^ (ji5).toNat)) = ji7 := shl_small hji7
 have e : turn x n = Go.bits .or .u32 ji4 ji7 := by rw [← hji4, ← hji7, hj5a.out]; rfl
 rw [e]
 clear e
 go_enter Tryd.func67, Tryd.ntmps67
 go_wp2
 repeat (go_quiet (fail); try go_wp2)
 go_ret
 exact ⟨rfl, _, rfl⟩
end Go.Proofs.YtagdiodhdnebaaaDoor.P
