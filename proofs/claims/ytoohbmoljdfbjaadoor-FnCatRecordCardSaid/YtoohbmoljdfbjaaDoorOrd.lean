/- itemOrder, with the world that it leaves. -/
import Derived.Test.YtoohbmoljdfbjaaDoorPx4
import Derived.Test.YtoohbmoljdfbjaaDoorQt
import Derived.Sort.Grow
set_option linter.unusedVariables false
set_option linter.unusedSimpArgs false
namespace Go.Proofs.YtoohbmoljdfbjaaDoor.P
open Go.RowKit Go.Proofs.YtoohbmoljdfbjaaDoorW.PrintWords
/-- What itemOrder tells of two things. -/
def orderI (x y : S33) : Int := if x.f0 < y.f0 then -1 else if y.f0 < x.f0 then 1 else cmpB x.f1 y.f1
theorem cmp_int (a b : Int) : cmp_Compare_int.f a b = some (if a < b then -1 else if b < a then 1 else 0) := by
  unfold cmp_Compare_int.f cmp_isNaN_int.f
  have e : ∀ c : Int, (c != c) = false := fun c => by simp
  simp only [e, Option.bind_some]
  rw [if_neg (by decide), if_neg (by decide)]
  split
  · rfl
  · split <;> rfl
theorem or_int (a b : Int) : cmp_Or_int.f 3 [a, b] = some (if a = 0 then b else a) := by
  have w1 : wrap64 1 = 1 := by unfold wrap64; omega
  have w2 : wrap64 2 = 2 := by unfold wrap64; omega
  unfold cmp_Or_int.f
  by_cases ha : a = 0
  · rw [if_pos ha]
    by_cases hb : b = 0
    · simp [cmp_Or_int.l0, rd, ha, hb, w1, w2]
    · simp [cmp_Or_int.l0, rd, ha, hb, w1, w2]
  · rw [if_neg ha]
    simp [cmp_Or_int.l0, rd, ha]
theorem row_two (w : World) (a b : Int) (t : TypeId) : Kd.C (Kd.int .i64) (w.alloc (.cells #[.int .i64 a, .int .i64 b] t)) (some ⟨w.heap.size, 0, none⟩) 2 [a, b] := by
  have h := blk_new w (.cells #[.int .i64 a, .int .i64 b] t)
  refine ⟨rfl, by decide, fun _ => ⟨_, rfl, fun j p hj => ⟨[.int .i64 p], rfl, rfl, fun i u hi => ?_⟩⟩⟩
  match i, hi with
  | 0, hi =>
    obtain rfl : u = .int .i64 p := by simpa using hi.symm
    match j, hj with
    | 0, hj =>
      obtain rfl : a = p := by simpa using hj
      exact (blk_cell h 0).trans rfl
    | 1, hj =>
      obtain rfl : b = p := by simpa using hj
      exact (blk_cell h 1).trans rfl
    | j + 2, hj => simp at hj
  | i + 1, hi => simp at hi
theorem three_grow (W : World) (o1 o2 o3 : Obj) (m n : Nat) : ((((W.alloc o1).alloc o2).drewN m).alloc o3).drewN n = Go.Sort.grow (W.drewN (m + n)) #[o1, o2, o3] := by
  rw [Go.Sort.alloc_eq_grow W o1, Go.Sort.alloc_eq_grow (Go.Sort.grow W #[o1]) o2, Go.Sort.grow_grow, Go.Sort.alloc_eq_grow ((Go.Sort.grow W (#[o1] ++ #[o2])).drewN m) o3]
  show (Go.Sort.grow (Go.Sort.grow (W.drewN m) (#[o1] ++ #[o2])) #[o3]).drewN n = _
  rw [Go.Sort.grow_grow]
  show Go.Sort.grow ((W.drewN m).drewN n) (#[o1] ++ #[o2] ++ #[o3]) = _
  have e : (W.drewN m).drewN n = W.drewN (m + n) := by simp [World.drewN, Nat.add_assoc]
  rw [e]
  rfl
set_option maxHeartbeats 4000000 in
set_option maxRecDepth 100000 in
theorem order_calls (x y : S33) (W : World) : Calls Tryd.prog 33 #[.agg #[.int .i64 x.f0, .string x.f1, .int .i64 x.f2, .string x.f3], .agg #[.int .i64 y.f0, .string y.f1, .int .i64 y.f2, .string y.f3]] W fun e w' => e = .returned (.int .i64 (orderI x y)) ∧ ∃ q os', w' = Go.Sort.grow (W.drewN q) os' := by
  have hu38 := Tryd.underlying33
  have H1 := Aside0.mk (cmp_int x.f0 y.f0)
  have H2 := Aside0.mk (show cmp_Compare_string.f x.f1 y.f1 = some (cmpB x.f1 y.f1) from rfl)
  have HV : Aside0 (orderI x y = if (if x.f0 < y.f0 then (-1 : Int) else if y.f0 < x.f0 then 1 else 0) = 0 then cmpB x.f1 y.f1 else (if x.f0 < y.f0 then (-1 : Int) else if y.f0 < x.f0 then 1 else 0)) := ⟨by
    unfold orderI
    by_cases h : x.f0 < y.f0
    · simp [h]
    · by_cases h2 : y.f0 < x.f0 <;> simp [h, h2]⟩
  generalize (if x.f0 < y.f0 then (-1 : Int) else if y.f0 < x.f0 then 1 else 0) = c1 at H1 HV
  generalize cmpB x.f1 y.f1 = c2 at H2 HV
  have H3 := Aside0.mk (or_int c1 c2)
  rw [HV.out]
  generalize (if c1 = 0 then c2 else c1) = r at H3 ⊢
  clear HV
  obtain ⟨x0, x1, x2, x3⟩ := x
  obtain ⟨y0, y1, y2, y3⟩ := y
  simp only at H1 H2 ⊢
  go_enter Tryd.func33, Tryd.ntmps33
  go_wp2
  refine Go.Proofs.YtoohbmoljdfbjaaDoor.Qt.region 10 (by kernel_rfl) (by kernel_rfl) ?_
  simp only [List.take_succ_cons, List.take_zero, List.drop_succ_cons, List.drop_zero]
  repeat (quiet_step (first | (go_at_call 43; refine Calls.quiet_of ((cmp_Compare_int.calls _ _ _ _ H1.out).mono fun e w' ⟨he, hw⟩ => ⟨he, hw.out⟩)) | (go_at_call 44; refine Calls.quiet_of ((cmp_Compare_string.calls _ _ _ _ H2.out).mono fun e w' ⟨he, hw⟩ => ⟨he, hw.out⟩))))
  refine wpQuiet_nil ?_
  intro _ hw'
  obtain ⟨nq, hw''⟩ := hw'
  subst hw''
  go_wp2_with fail
  have hrow : ∀ o1 o2 : Obj, Kd.C (Kd.int .i64) ((((W.alloc o1).alloc o2).drewN nq).alloc (.cells #[.int .i64 c1, .int .i64 c2] 3)) (some ⟨W.heap.size + 1 + 1, 0, none⟩) 2 [c1, c2] := fun o1 o2 => by
    have h := row_two (((W.alloc o1).alloc o2).drewN nq) c1 c2 3
    have e : (((W.alloc o1).alloc o2).drewN nq).heap.size = W.heap.size + 1 + 1 := by show ((W.alloc o1).alloc o2).heap.size = _; simp
    rw [e] at h
    exact h
  refine (cmp_Or_int.calls 3 (some ⟨W.heap.size + 1 + 1, 0, none⟩) 2 [c1, c2] r _ (hrow _ _) (Nat.le_refl _) H3.out).mono ?_
  clear hrow
  rintro e w' ⟨rfl, ⟨nd, rfl⟩⟩
  go_wp2_with fail
  go_ret
  exact ⟨rfl, nq + nd, _, three_grow W _ _ _ nq nd⟩
end Go.Proofs.YtoohbmoljdfbjaaDoor.P
