-- made by wip/prt/pp.py over the kit's print
import Derived.Test.YtagdiodhdnebaaaDoorPx0
import Derived.Test.YtagdiodhdnebaaaDoorPx3
import Derived.Test.YtagdiodhdnebaaaDoorPx4
import Derived.Test.YtagdiodhdnebaaaDoorGlob
namespace Go.Proofs.YtagdiodhdnebaaaDoor.P
open Go.RowKit Go.Proofs.YtagdiodhdnebaaaDoorW.PrintWords Go.Proofs.YtagdiodhdnebaaaDoorW.PrintLast Go.Proofs.YtagdiodhdnebaaaDoorW.PrintMore
attribute [local go_sem] max2_int min2_int max_two min_two max_three min_three max_four min_four   -- for this text's walks alone
set_option linter.unusedVariables false
set_option linter.unusedSimpArgs false

/-! ### spec_l1Open: function 40 -/
def spec_l1Open.f (l0 : List Int) : Option (List Int × Int) := if (l0.length : Int) > 2000 then (if 2000 ≤ (l0.length : Int) then (some (l0.take 2000, 0)) else (none)) else (some (l0, 0))
set_option maxHeartbeats 8000000 in
set_option maxRecDepth 100000 in
theorem spec_l1Open.calls (A0 : Option Addr) (c0 : Nat) (l0 : List Int) (r1 : List Int) (r2 : Int) (w0 w : World) (hB : Below w0.heap.size w0 w) (hr0 : Kd.C (Kd.int .u8) w0 A0 l0.length l0) (hc0 : l0.length ≤ c0) (h : spec_l1Open.f l0 = some (r1, r2)) :
  Calls Tryd.prog 40 #[.slice A0 l0.length c0] w fun e w' => ∃ g_ : Nat, e = .returned (.pointer (some ⟨g_, 0, none⟩)) ∧ IsS64 w0 w' g_ r1 r2 ∧ Below w0.heap.size w0 w' ∧ Below w.heap.size w w' := by
 have hu64 := Tryd.underlying64
 have HR0 := Aside0.mk hr0
 have HC0 := Aside0.mk hc0
 clear hr0 hc0
 have HBW := Aside0.mk (Below.refl w.heap.size w)
 have HW0 := Aside0.mk hB.size
 have HB := Aside0.mk hB
 clear hB
 have H : (if (l0.length : Int) > 2000 then (if 2000 ≤ (l0.length : Int) then (some (l0.take 2000, 0)) else (none)) else (some (l0, 0))) = some (r1, r2) := h
 clear h
 by_cases c2 : (l0.length : Int) > 2000
 ·
  rw [if_pos c2] at H
  have c2b0 : decide (2000 < (l0.length : Int)) = true := decide_eq_true c2
  have c2b1 : decide (2000 < l0.length) = true := decide_eq_true (by omega)
  clear c2
  by_cases c3 : 2000 ≤ (l0.length : Int)
  ·
   rw [if_pos c3] at H
   have c3b0 := eq_true c3
   have c3b1 : decide (2000 ≤ (l0.length : Int)) = true := decide_eq_true c3
   clear c3
   simp only [Option.some.injEq, Prod.mk.injEq] at H
   obtain ⟨rfl, rfl⟩ := H
   obtain ⟨i04, hi04, _, hsz4, _⟩ := info_parts info5
   obtain ⟨hcut4, hA4, hC4⟩ := print_take_of (P := Tryd.prog) (Value.int .u8) 0 34 5 .i64 Tryd.underlying34 hi04 hsz4 A0 c0 l0 2000 (by omega) (of_decide_eq_true (by first | (with_reducible assumption) | assumption)) HC0.out
   have HR331 := Aside0.mk (Kd.C_of_reads (h1 := fun _ => rfl) (hA4 _ (Kd.reads_of_C HR0.out)))
   have HC331 := Aside0.mk hC4
   clear hA4 hC4 hi04 hsz4
   go_enter Tryd.func40, Tryd.ntmps40
   go_wp2_with (first | ((with_reducible refine gate_dst (N := 10) rfl ?_); refine box_event ?hg (N := 10) ?hd (cs := #[.slice A0 (l0.take 2000).length c0, .int .i64 0]) (t := 64) ?hr ?_; (case hd => rfl); (case hg => rfl); (case hr => first | (go_simp; done) | (go_simp; rfl)); intro gb332 hg w5 hbox hb; have n0_ := Aside0.mk (below_step HBW.out hb); have n1_ := Aside0.mk (below_step (by repeat (first | (with_reducible first | exact HB.out | apply below_alloc | apply pw_below_drewN | apply below_drew1) | exact HB.out)) hb); have n2_ := Aside0.mk (hbox); have n3_ := Aside0.mk ((by rw [hg]; exact (below_size (by repeat (first | (with_reducible first | exact HBW.out | apply below_alloc | apply pw_below_drewN | apply below_drew1) | exact HBW.out))) : w.heap.size ≤ gb332)); have n4_ := Aside0.mk ((Nat.le_trans HW0.out (by rw [hg]; exact (below_size (by repeat (first | (with_reducible first | exact HBW.out | apply below_alloc | apply pw_below_drewN | apply below_drew1) | exact HBW.out))) : w.heap.size ≤ gb332) : w0.heap.size ≤ gb332)); clear HBW; clear HB; have HBW := n0_; have HB := n1_; have BK332 := n2_; have GW332 := n3_; have GE332 := n4_; clear n0_ n1_ n2_ n3_ n4_; clear hb hbox hg))
   go_ret
   exact ⟨_, rfl, (show IsS64 w0 _ gb332 (l0.take 2000) 0 from ⟨_, _, by (with_reducible repeat (first | refine blk_drewN ?_ _ | refine blk_drew ?_ | refine blk_alloc ?_ _)); exact BK332.out, GE332.out, HR331.out⟩), by repeat (first | (with_reducible first | exact HB.out | apply below_alloc | apply pw_below_drewN | apply below_drew1 | refine below_set ?_ GE332.out) | exact HB.out), by repeat (first | (with_reducible first | exact HBW.out | apply below_alloc | apply pw_below_drewN | apply below_drew1 | refine below_set ?_ GW332.out) | exact HBW.out)⟩
  ·
   rw [if_neg c3] at H
   exact absurd H (by simp)
 ·
  rw [if_neg c2] at H
  have c2b0 : decide (2000 < (l0.length : Int)) = false := decide_eq_false c2
  have c2b1 : decide (2000 < l0.length) = false := decide_eq_false (by omega)
  clear c2
  simp only [Option.some.injEq, Prod.mk.injEq] at H
  obtain ⟨rfl, rfl⟩ := H
  go_enter Tryd.func40, Tryd.ntmps40
  go_wp2_with (first | ((with_reducible refine gate_dst (N := 10) rfl ?_); refine box_event ?hg (N := 10) ?hd (cs := #[.slice A0 l0.length c0, .int .i64 0]) (t := 64) ?hr ?_; (case hd => rfl); (case hg => rfl); (case hr => first | (go_simp; done) | (go_simp; rfl)); intro gb333 hg w6 hbox hb; have n0_ := Aside0.mk (below_step HBW.out hb); have n1_ := Aside0.mk (below_step (by repeat (first | (with_reducible first | exact HB.out | apply below_alloc | apply pw_below_drewN | apply below_drew1) | exact HB.out)) hb); have n2_ := Aside0.mk (hbox); have n3_ := Aside0.mk ((by rw [hg]; exact (below_size (by repeat (first | (with_reducible first | exact HBW.out | apply below_alloc | apply pw_below_drewN | apply below_drew1) | exact HBW.out))) : w.heap.size ≤ gb333)); have n4_ := Aside0.mk ((Nat.le_trans HW0.out (by rw [hg]; exact (below_size (by repeat (first | (with_reducible first | exact HBW.out | apply below_alloc | apply pw_below_drewN | apply below_drew1) | exact HBW.out))) : w.heap.size ≤ gb333) : w0.heap.size ≤ gb333)); clear HBW; clear HB; have HBW := n0_; have HB := n1_; have BK333 := n2_; have GW333 := n3_; have GE333 := n4_; clear n0_ n1_ n2_ n3_ n4_; clear hb hbox hg))
  go_ret
  exact ⟨_, rfl, (show IsS64 w0 _ gb333 l0 0 from ⟨_, _, by (with_reducible repeat (first | refine blk_drewN ?_ _ | refine blk_drew ?_ | refine blk_alloc ?_ _)); exact BK333.out, GE333.out, HR0.out⟩), by repeat (first | (with_reducible first | exact HB.out | apply below_alloc | apply pw_below_drewN | apply below_drew1 | refine below_set ?_ GE333.out) | exact HB.out), by repeat (first | (with_reducible first | exact HBW.out | apply below_alloc | apply pw_below_drewN | apply below_drew1 | refine below_set ?_ GW333.out) | exact HBW.out)⟩

/-! ### spec_DrawLogRead: function 24 -/
def spec_DrawLogRead.f (k : Nat) (l0 : List Int) : Option (ByteArray) := (spec_l1Open.f l0).bind fun bt334 => ((spec_l15AnyLog.f k bt334.1 bt334.2).bind fun bt337 => (some bt337.1))
theorem spec_DrawLogRead.mono : ∀ a0 k, LeO (spec_DrawLogRead.f k a0) (spec_DrawLogRead.f (k + 1) a0) := by
 intro a0 k
 unfold spec_DrawLogRead.f
 repeat' first
   | (with_reducible exact spec_l15AnyLog.mono _ _ _)
   | (with_reducible exact LeO.refl _)
   | (with_reducible exact LeO.none _)
   | (with_reducible refine LeO.ite ?_ ?_)
   | (with_reducible refine LeO.bind ?_ (fun _ => ?_))
   | exact spec_l15AnyLog.mono _ _ _
   | exact LeO.none _
   | refine LeO.ite ?_ ?_
   | refine LeO.bind ?_ (fun _ => ?_)
set_option maxHeartbeats 8000000 in
set_option maxRecDepth 100000 in
theorem spec_DrawLogRead.calls (k : Nat) (A0 : Option Addr) (c0 : Nat) (l0 : List Int) (r : ByteArray) (w : World) (hr0 : Kd.C (Kd.int .u8) w A0 l0.length l0) (hc0 : l0.length ≤ c0) (h : spec_DrawLogRead.f k l0 = some r) :
  Calls Tryd.prog 24 #[.slice A0 l0.length c0] w fun e w' => e = .returned (.string r) ∧ Below w.heap.size w w' := by
 have HR0 := Aside0.mk hr0
 have HC0 := Aside0.mk hc0
 clear hr0 hc0
 have HB := Aside0.mk (Below.refl w.heap.size w)
 have H : ((spec_l1Open.f l0).bind fun bt334 => ((spec_l15AnyLog.f k bt334.1 bt334.2).bind fun bt337 => (some bt337.1))) = some r := h
 clear h
 replace H := Option.bind_eq_some_iff.mp H
 obtain ⟨⟨t334, t335⟩, A20, H⟩ := H
 replace H : ((spec_l15AnyLog.f k t334 t335).bind fun bt337 => (some bt337.1)) = some r := H
 have A2 := Aside0.mk A20
 clear A20
 replace H := Option.bind_eq_some_iff.mp H
 obtain ⟨⟨t337, t338⟩, A30, H⟩ := H
 replace H : (some t337) = some r := H
 have A3 := Aside0.mk A30
 clear A30
 obtain rfl := Option.some.inj H
 go_enter Tryd.func24, Tryd.ntmps24
 go_wp2_with (first | ((with_reducible refine gate_callee (f := 40) rfl ?_); refine goesL_ (some 4) rfl rfl Tryd.func40 (by kernel_rfl) rfl #[.slice A0 l0.length c0] rfl (by (try simp only [List.map_toArray, List.map_cons, List.map_nil]); first | done | rfl | (simp only [List.length_drop, List.length_take]; rfl)) ?_; (with_reducible refine (spec_l1Open.calls _ _ l0 t334 t335 w _ ?side1 ?side2 ?side3 A2.out).mono ?_); (case side1 => repeat (first | (with_reducible first | exact HB.out | apply below_alloc | apply pw_below_drewN | apply below_drew1) | exact HB.out)); (case side2 => exact HR0.out); (case side3 => exact HC0.out); rintro e w4 ⟨g336, rfl, hi, hb, hb2⟩; refine ⟨_, rfl, ?_⟩; have n0_ := Aside0.mk (hb); have n1_ := Aside0.mk (hi); clear HB; have HB := n0_; have HI336 := n1_; clear n0_ n1_; (try clear hb); (try clear hb2); (try clear hk); (try clear hi)) | ((with_reducible refine gate_callee (f := 39) rfl ?_); refine goesL_ (some 5) rfl rfl Tryd.func39 (by kernel_rfl) rfl #[.pointer (some ⟨g336, 0, none⟩)] rfl (by (try simp only [List.map_toArray, List.map_cons, List.map_nil]); first | done | rfl | (simp only [List.length_drop, List.length_take]; rfl)) ?_; (with_reducible refine (spec_l15AnyLog.calls k g336 t334 t335 t337 t338 w _ ?side1 ?side2 A3.out).mono ?_); (case side1 => repeat (first | (with_reducible first | exact HI336.out | apply IsS64.alloc | apply IsS64.drewN | apply IsS64.drew | apply IsS64.set_1) | exact HI336.out)); (case side2 => repeat (first | (with_reducible first | exact HB.out | apply below_alloc | apply pw_below_drewN | apply below_drew1 | refine below_set ?_ (IsS64.ge HI336.out)) | exact HB.out)); rintro e w5 ⟨rfl, hi, hb, hk⟩; refine ⟨_, rfl, ?_⟩; have n0_ := Aside0.mk (hb); have n1_ := Aside0.mk (hi); clear HB; clear HI336; have HB := n0_; have HI336 := n1_; clear n0_ n1_; (try clear hb); (try clear hb2); (try clear hk); (try clear hi)))
 go_ret
 exact ⟨by first | rfl | (simp [errW_none, errW_some] <;> rfl) | (simp [*, errW_none, errW_some] <;> rfl), by repeat (first | (with_reducible first | exact HB.out | apply below_alloc | apply pw_below_drewN | apply below_drew1 | refine below_set ?_ (IsS64.ge HI336.out)) | exact HB.out)⟩

/-! ### laws_whWords: function 25 -/
def laws_whWords.l0 : Nat → List ByteArray → List ByteArray → Int → Option (Bool)
 | 0, _, _, _ => none
 | k + 1, x0, x1, x5 => if x5 < (x0.length : Int) then (if 0 ≤ x5 then (if x5 < (x1.length : Int) then (if (rdOf ByteArray.empty x0 x5).toList = (rdOf ByteArray.empty x1 x5).toList then (laws_whWords.l0 k x0 x1 (wrap64 (x5 + 1))) else (some false)) else (none)) else (none)) else (some true)
def laws_whWords.f (k : Nat) (l0 : List ByteArray) (l1 : List ByteArray) : Option (Bool) := if (l0.length : Int) = (l1.length : Int) then (laws_whWords.l0 k l0 l1 0) else (some false)
theorem laws_whWords.mono_l : ∀ k, (∀ y0 y1 y2, LeO (laws_whWords.l0 k y0 y1 y2) (laws_whWords.l0 (k + 1) y0 y1 y2))
 | 0 => fun _ _ _ r h => by simp [laws_whWords.l0] at h
 | k + 1 => by
  have ih0 := laws_whWords.mono_l k
  ·
   intro y0 y1 y2
   unfold laws_whWords.l0
   repeat' first
   | (with_reducible exact ih0 _ _ _)
   | (with_reducible exact LeO.refl _)
   | (with_reducible exact LeO.none _)
   | (with_reducible refine LeO.ite ?_ ?_)
   | (with_reducible refine LeO.bind ?_ (fun _ => ?_))
   | exact ih0 _ _ _
   | exact LeO.none _
   | refine LeO.ite ?_ ?_
   | refine LeO.bind ?_ (fun _ => ?_)
theorem laws_whWords.mono : ∀ a0 a1 k, LeO (laws_whWords.f k a0 a1) (laws_whWords.f (k + 1) a0 a1) := by
 intro a0 a1 k
 have ih0 := laws_whWords.mono_l k
 unfold laws_whWords.f
 repeat' first
   | (with_reducible exact ih0 _ _ _)
   | (with_reducible exact LeO.refl _)
   | (with_reducible exact LeO.none _)
   | (with_reducible refine LeO.ite ?_ ?_)
   | (with_reducible refine LeO.bind ?_ (fun _ => ?_))
   | exact ih0 _ _ _
   | exact LeO.none _
   | refine LeO.ite ?_ ?_
   | refine LeO.bind ?_ (fun _ => ?_)
set_option maxHeartbeats 8000000 in
set_option maxRecDepth 100000 in
theorem laws_whWords.calls (k : Nat) (A0 : Option Addr) (c0 : Nat) (l0 : List ByteArray) (A1 : Option Addr) (c1 : Nat) (l1 : List ByteArray) (r : Bool) (w : World) (hr0 : Kd.C Kd.string w A0 l0.length l0) (hc0 : l0.length ≤ c0) (hr1 : Kd.C Kd.string w A1 l1.length l1) (hc1 : l1.length ≤ c1) (h : laws_whWords.f k l0 l1 = some r) :
  Calls Tryd.prog 25 #[.slice A0 l0.length c0, .slice A1 l1.length c1] w fun e w' => e = .returned (.bool r) ∧ Drawn0 w w' := by
 have HR0 := Aside0.mk hr0
 have HC0 := Aside0.mk hc0
 clear hr0 hc0
 have HR1 := Aside0.mk hr1
 have HC1 := Aside0.mk hc1
 clear hr1 hc1
 have H : (if (l0.length : Int) = (l1.length : Int) then (laws_whWords.l0 k l0 l1 0) else (some false)) = some r := h
 clear h
 by_cases c3 : (l0.length : Int) = (l1.length : Int)
 ·
  rw [if_pos c3] at H
  have c3b0 : ((l0.length : Int) == (l1.length : Int)) = true := beq_iff_eq.mpr c3
  have c3b1 : ((l0.length : Int) != (l1.length : Int)) = false := bne_eq_false_iff_eq.mpr c3
  have c3b2 : (l0.length == l1.length) = true := by first | simpa using c3 | (simp at c3 ⊢; omega)
  clear c3
  have H' := Aside0.mk H
  clear H
  go_enter Tryd.func25, Tryd.ntmps25
  go_wp2
  repeat (go_quiet (fail); try go_wp2)
  go_loopg [5] k (fun kq v5 w' => ∃ (x5_1 : Int), v5 = .int .i64 x5_1 ∧ Aside0 (laws_whWords.l0 kq l0 l1 x5_1 = some r) ∧ Aside0 (kq ≤ k) ∧ Drawn0 w w')
  case atStart => exact ⟨(0), (by first | rfl | (simp; done) | (simp [*]; done)), H', ⟨Nat.le_refl _⟩, by repeat (first | exact Drawn0.refl _ | apply Drawn0.step)⟩
  case round =>
   clear H'
   try clear c1
   try clear c2
   try clear p2
   try clear c3
   try clear c3b0
   try clear c3b1
   try clear c3b2
   obtain ⟨x5_1, rfl, HA, HK1, ⟨m1, rfl⟩⟩ := hrel
   cases gk with
   | zero => exact absurd HA.out (by simp [laws_whWords.l0])
   | succ k1 =>
    have H := HA.out
    clear HA
    simp only [laws_whWords.l0] at H
    by_cases c4 : x5_1 < (l0.length : Int)
    ·
     rw [if_pos c4] at H
     have c4b0 : decide (x5_1 < (l0.length : Int)) = true := decide_eq_true c4
     clear c4
     by_cases c5 : 0 ≤ x5_1
     ·
      rw [if_pos c5] at H
      have c5b0 : decide (0 ≤ x5_1) = true := decide_eq_true c5
      clear c5
      by_cases c6 : x5_1 < (l1.length : Int)
      ·
       rw [if_pos c6] at H
       have c6b0 : decide (x5_1 < (l1.length : Int)) = true := decide_eq_true c6
       clear c6
       by_cases c7 : (rdOf ByteArray.empty l0 x5_1).toList = (rdOf ByteArray.empty l1 x5_1).toList
       ·
        rw [if_pos c7] at H
        have c7b0 : ((rdOf ByteArray.empty l0 x5_1).toList == (rdOf ByteArray.empty l1 x5_1).toList) = true := beq_iff_eq.mpr c7
        have c7b1 : ((rdOf ByteArray.empty l0 x5_1).toList != (rdOf ByteArray.empty l1 x5_1).toList) = false := bne_eq_false_iff_eq.mpr c7
        clear c7
        have H' := Aside0.mk H
        clear H
        have p339 : 0 ≤ (x5_1 : Int) := of_decide_eq_true (by first | (with_reducible assumption) | assumption)
        have q339 : x5_1 < (l0.length : Int) := of_decide_eq_true (by first | (with_reducible assumption) | assumption)
        obtain ⟨ad339, e339, hx339_0⟩ := Kd.at_string HR0.out x5_1 p339 q339
        cases e339
        replace p339 := eq_true p339
        replace q339 := eq_true q339
        have p340 : 0 ≤ (x5_1 : Int) := of_decide_eq_true (by first | (with_reducible assumption) | assumption)
        have q340 : x5_1 < (l1.length : Int) := of_decide_eq_true (by first | (with_reducible assumption) | assumption)
        obtain ⟨ad340, e340, hx340_0⟩ := Kd.at_string HR1.out x5_1 p340 q340
        cases e340
        replace p340 := eq_true p340
        replace q340 := eq_true q340
        go_wp2
        repeat (go_quiet (fail); try go_wp2)
        go_roundg k1
        case measure => have := HK1.out; omega
        case rel => exact ⟨(wrap64 (x5_1 + 1)), (by first | rfl | (simp; done) | (simp [*]; done)), H', ⟨by have := HK1.out; omega⟩, by repeat (first | exact Drawn0.refl _ | apply Drawn0.step)⟩
       ·
        rw [if_neg c7] at H
        have c7b0 : ((rdOf ByteArray.empty l0 x5_1).toList == (rdOf ByteArray.empty l1 x5_1).toList) = false := beq_eq_false_iff_ne.mpr c7
        have c7b1 : ((rdOf ByteArray.empty l0 x5_1).toList != (rdOf ByteArray.empty l1 x5_1).toList) = true := bne_iff_ne.mpr c7
        obtain rfl := Option.some.inj H
        have p339 : 0 ≤ (x5_1 : Int) := of_decide_eq_true (by first | (with_reducible assumption) | assumption)
        have q339 : x5_1 < (l0.length : Int) := of_decide_eq_true (by first | (with_reducible assumption) | assumption)
        obtain ⟨ad339, e339, hx339_0⟩ := Kd.at_string HR0.out x5_1 p339 q339
        cases e339
        replace p339 := eq_true p339
        replace q339 := eq_true q339
        have p340 : 0 ≤ (x5_1 : Int) := of_decide_eq_true (by first | (with_reducible assumption) | assumption)
        have q340 : x5_1 < (l1.length : Int) := of_decide_eq_true (by first | (with_reducible assumption) | assumption)
        obtain ⟨ad340, e340, hx340_0⟩ := Kd.at_string HR1.out x5_1 p340 q340
        cases e340
        replace p340 := eq_true p340
        replace q340 := eq_true q340
        go_wp2
        repeat (go_quiet (fail); try go_wp2)
        go_ret
        exact ⟨by first | rfl | (simp; done) | (simp [*]; done), by repeat (first | exact Drawn0.refl _ | apply Drawn0.step)⟩
      ·
       rw [if_neg c6] at H
       exact absurd H (by simp)
     ·
      rw [if_neg c5] at H
      exact absurd H (by simp)
    ·
     rw [if_neg c4] at H
     have c4b0 : decide (x5_1 < (l0.length : Int)) = false := decide_eq_false c4
     clear c4
     obtain rfl := Option.some.inj H
     go_wp2
     repeat (go_quiet (fail); try go_wp2)
     go_ret
     exact ⟨by first | rfl | (simp; done) | (simp [*]; done), by repeat (first | exact Drawn0.refl _ | apply Drawn0.step)⟩
 ·
  rw [if_neg c3] at H
  have c3b0 : ((l0.length : Int) == (l1.length : Int)) = false := beq_eq_false_iff_ne.mpr c3
  have c3b1 : ((l0.length : Int) != (l1.length : Int)) = true := bne_iff_ne.mpr c3
  have c3b2 : (l0.length == l1.length) = false := by first | simpa using c3 | (simp at c3 ⊢; omega)
  obtain rfl := Option.some.inj H
  go_enter Tryd.func25, Tryd.ntmps25
  go_wp2
  repeat (go_quiet (fail); try go_wp2)
  go_ret
  exact ⟨by first | rfl | (simp; done) | (simp [*]; done), by repeat (first | exact Drawn0.refl _ | apply Drawn0.step)⟩

/-! ### laws_whIn: function 26 -/
def laws_whIn.f (a0 : Int) (a1 : Int) (a2 : Int) : Option (Bool) := if a0 ≥ a1 then (some (decide (a0 ≤ a2))) else (some false)
set_option maxHeartbeats 8000000 in
set_option maxRecDepth 100000 in
theorem laws_whIn.calls (a0 : Int) (a1 : Int) (a2 : Int) (r : Bool) (w : World) (h : laws_whIn.f a0 a1 a2 = some r) :
  Calls Tryd.prog 26 #[.int .i64 a0, .int .i64 a1, .int .i64 a2] w fun e w' => e = .returned (.bool r) ∧ Drawn0 w w' := by
 have H : (if a0 ≥ a1 then (some (decide (a0 ≤ a2))) else (some false)) = some r := h
 clear h
 by_cases c4 : a0 ≥ a1
 ·
  rw [if_pos c4] at H
  have c4b0 : decide (a1 ≤ a0) = true := decide_eq_true c4
  clear c4
  obtain rfl := Option.some.inj H
  go_enter Tryd.func26, Tryd.ntmps26
  go_wp2
  go_ret
  exact ⟨by first | rfl | (simp; done) | (simp [*]; done), by repeat (first | exact Drawn0.refl _ | apply Drawn0.step)⟩
 ·
  rw [if_neg c4] at H
  have c4b0 : decide (a1 ≤ a0) = false := decide_eq_false c4
  clear c4
  obtain rfl := Option.some.inj H
  go_enter Tryd.func26, Tryd.ntmps26
  go_wp2
  go_ret
  exact ⟨by first | rfl | (simp; done) | (simp [*]; done), by repeat (first | exact Drawn0.refl _ | apply Drawn0.step)⟩

/-! ### laws_FnLogRead: function 8 -/
mutual
def laws_FnLogRead.j0 : Nat → ByteArray → List ByteArray → Int → Bool → Option (Bool)
 | 0, _, _, _, _ => none
 | k + 1, x3, x4, x5, x48 => if x48 = true then (some false) else ((impl_LogMend.f k x3).bind fun t355 => ((impl_LogRead.f k t355).bind fun bt356 => ((laws_whIn.f x5 0 (x3.size : Int)).bind fun t360 => (if t360 = true then (if 0 ≤ x5 then (if x5 ≤ (x3.size : Int) then (if t355.toList = (x3.extract 0 (x5 : Int).toNat).toList then (if bt356.2 = x5 then ((laws_whWords.f k bt356.1 x4).bind fun t361 => (if t361 = true then ((impl_LogOk.f k x3).bind fun t362 => (if x5 = (x3.size : Int) then (laws_FnLogRead.j1 k (t362 == (decide (x5 ≤ 9000)))) else (laws_FnLogRead.j1 k (t362 == false)))) else (laws_FnLogRead.j1 k false))) else (laws_FnLogRead.j1 k false)) else (laws_FnLogRead.j1 k false)) else (none)) else (none)) else (laws_FnLogRead.j1 k false)))))
def laws_FnLogRead.j1 : Nat → Bool → Option (Bool)
 | 0, _ => none
 | k + 1, x2 => some x2
end
def laws_FnLogRead.f (k : Nat) (l0 : List Int) : Option (Bool) := if (l0.length : Int) > 1048576 then (some true) else ((spec_DrawLogRead.f k l0).bind fun t341 => ((impl_LogRead.f k t341).bind fun bt342 => ((spec_LogRead.f k t341).bind fun bt346 => (if bt342.2 = bt346.2 then ((laws_whWords.f k bt342.1 bt346.1).bind fun t350 => (if t350 = true then ((impl_LogOk.f k t341).bind fun t351 => ((spec_LogOk.f k t341).bind fun t352 => (if (t351 != t352) = true then (laws_FnLogRead.j0 k t341 bt342.1 bt342.2 true) else ((impl_LogMend.f k t341).bind fun t353 => ((spec_LogMend.f k t341).bind fun t354 => (laws_FnLogRead.j0 k t341 bt342.1 bt342.2 (t353.toList != t354.toList))))))) else (laws_FnLogRead.j0 k t341 bt342.1 bt342.2 true))) else (laws_FnLogRead.j0 k t341 bt342.1 bt342.2 true)))))
theorem laws_FnLogRead.mono_l : ∀ k, (∀ y0 y1 y2 y3, LeO (laws_FnLogRead.j0 k y0 y1 y2 y3) (laws_FnLogRead.j0 (k + 1) y0 y1 y2 y3)) ∧ (∀ y0, LeO (laws_FnLogRead.j1 k y0) (laws_FnLogRead.j1 (k + 1) y0))
 | 0 => ⟨fun _ _ _ _ r h => by simp [laws_FnLogRead.j0] at h, fun _ r h => by simp [laws_FnLogRead.j1] at h⟩
 | k + 1 => by
  obtain ⟨ih0, ih1⟩ := laws_FnLogRead.mono_l k
  refine ⟨?_, ?_⟩
  ·
   intro y0 y1 y2 y3
   unfold laws_FnLogRead.j0
   repeat' first
   | (with_reducible exact ih0 _ _ _ _)
   | (with_reducible exact ih1 _)
   | (with_reducible exact impl_LogMend.mono _ _)
   | (with_reducible exact impl_LogOk.mono _ _)
   | (with_reducible exact impl_LogRead.mono _ _)
   | (with_reducible exact laws_whWords.mono _ _ _)
   | (with_reducible exact spec_DrawLogRead.mono _ _)
   | (with_reducible exact spec_LogMend.mono _ _)
   | (with_reducible exact spec_LogOk.mono _ _)
   | (with_reducible exact spec_LogRead.mono _ _)
   | (with_reducible exact LeO.refl _)
   | (with_reducible exact LeO.none _)
   | (with_reducible refine LeO.ite ?_ ?_)
   | (with_reducible refine LeO.bind ?_ (fun _ => ?_))
   | exact ih0 _ _ _ _
   | exact ih1 _
   | exact impl_LogMend.mono _ _
   | exact impl_LogOk.mono _ _
   | exact impl_LogRead.mono _ _
   | exact laws_whWords.mono _ _ _
   | exact spec_DrawLogRead.mono _ _
   | exact spec_LogMend.mono _ _
   | exact spec_LogOk.mono _ _
   | exact spec_LogRead.mono _ _
   | exact LeO.none _
   | refine LeO.ite ?_ ?_
   | refine LeO.bind ?_ (fun _ => ?_)
  ·
   intro y0
   unfold laws_FnLogRead.j1
   repeat' first
   | (with_reducible exact ih0 _ _ _ _)
   | (with_reducible exact ih1 _)
   | (with_reducible exact impl_LogMend.mono _ _)
   | (with_reducible exact impl_LogOk.mono _ _)
   | (with_reducible exact impl_LogRead.mono _ _)
   | (with_reducible exact laws_whWords.mono _ _ _)
   | (with_reducible exact spec_DrawLogRead.mono _ _)
   | (with_reducible exact spec_LogMend.mono _ _)
   | (with_reducible exact spec_LogOk.mono _ _)
   | (with_reducible exact spec_LogRead.mono _ _)
   | (with_reducible exact LeO.refl _)
   | (with_reducible exact LeO.none _)
   | (with_reducible refine LeO.ite ?_ ?_)
   | (with_reducible refine LeO.bind ?_ (fun _ => ?_))
   | exact ih0 _ _ _ _
   | exact ih1 _
   | exact impl_LogMend.mono _ _
   | exact impl_LogOk.mono _ _
   | exact impl_LogRead.mono _ _
   | exact laws_whWords.mono _ _ _
   | exact spec_DrawLogRead.mono _ _
   | exact spec_LogMend.mono _ _
   | exact spec_LogOk.mono _ _
   | exact spec_LogRead.mono _ _
   | exact LeO.none _
   | refine LeO.ite ?_ ?_
   | refine LeO.bind ?_ (fun _ => ?_)
theorem laws_FnLogRead.mono : ∀ a0 k, LeO (laws_FnLogRead.f k a0) (laws_FnLogRead.f (k + 1) a0) := by
 intro a0 k
 obtain ⟨ih0, ih1⟩ := laws_FnLogRead.mono_l k
 unfold laws_FnLogRead.f
 repeat' first
   | (with_reducible exact ih0 _ _ _ _)
   | (with_reducible exact ih1 _)
   | (with_reducible exact impl_LogMend.mono _ _)
   | (with_reducible exact impl_LogOk.mono _ _)
   | (with_reducible exact impl_LogRead.mono _ _)
   | (with_reducible exact laws_whWords.mono _ _ _)
   | (with_reducible exact spec_DrawLogRead.mono _ _)
   | (with_reducible exact spec_LogMend.mono _ _)
   | (with_reducible exact spec_LogOk.mono _ _)
   | (with_reducible exact spec_LogRead.mono _ _)
   | (with_reducible exact LeO.refl _)
   | (with_reducible exact LeO.none _)
   | (with_reducible refine LeO.ite ?_ ?_)
   | (with_reducible refine LeO.bind ?_ (fun _ => ?_))
   | exact ih0 _ _ _ _
   | exact ih1 _
   | exact impl_LogMend.mono _ _
   | exact impl_LogOk.mono _ _
   | exact impl_LogRead.mono _ _
   | exact laws_whWords.mono _ _ _
   | exact spec_DrawLogRead.mono _ _
   | exact spec_LogMend.mono _ _
   | exact spec_LogOk.mono _ _
   | exact spec_LogRead.mono _ _
   | exact LeO.none _
   | refine LeO.ite ?_ ?_
   | refine LeO.bind ?_ (fun _ => ?_)
set_option maxHeartbeats 8000000 in
set_option maxRecDepth 100000 in
theorem laws_FnLogRead.calls (k : Nat) (A0 : Option Addr) (c0 : Nat) (l0 : List Int) (r : Bool) (w : World) (hr0 : Kd.C (Kd.int .u8) w A0 l0.length l0) (hc0 : l0.length ≤ c0) (hG : Glob w) (h : laws_FnLogRead.f k l0 = some r) :
  Calls Tryd.prog 8 #[.slice A0 l0.length c0] w fun e w' => e = .returned (.bool r) ∧ Below w.heap.size w w' := by
 have HG := Aside0.mk hG
 clear hG
 have HR0 := Aside0.mk hr0
 have HC0 := Aside0.mk hc0
 clear hr0 hc0
 have HB := Aside0.mk (Below.refl w.heap.size w)
 have H : (if (l0.length : Int) > 1048576 then (some true) else ((spec_DrawLogRead.f k l0).bind fun t341 => ((impl_LogRead.f k t341).bind fun bt342 => ((spec_LogRead.f k t341).bind fun bt346 => (if bt342.2 = bt346.2 then ((laws_whWords.f k bt342.1 bt346.1).bind fun t350 => (if t350 = true then ((impl_LogOk.f k t341).bind fun t351 => ((spec_LogOk.f k t341).bind fun t352 => (if (t351 != t352) = true then (laws_FnLogRead.j0 k t341 bt342.1 bt342.2 true) else ((impl_LogMend.f k t341).bind fun t353 => ((spec_LogMend.f k t341).bind fun t354 => (laws_FnLogRead.j0 k t341 bt342.1 bt342.2 (t353.toList != t354.toList))))))) else (laws_FnLogRead.j0 k t341 bt342.1 bt342.2 true))) else (laws_FnLogRead.j0 k t341 bt342.1 bt342.2 true)))))) = some r := h
 clear h
 by_cases c2 : (l0.length : Int) > 1048576
 ·
  rw [if_pos c2] at H
  have c2b0 : decide (1048576 < (l0.length : Int)) = true := decide_eq_true c2
  have c2b1 : decide (1048576 < l0.length) = true := decide_eq_true (by omega)
  clear c2
  obtain rfl := Option.some.inj H
  go_enter Tryd.func8, Tryd.ntmps8
  go_wp2
  go_ret
  exact ⟨by first | rfl | (simp [errW_none, errW_some] <;> rfl) | (simp [*, errW_none, errW_some] <;> rfl), by repeat (first | (with_reducible first | exact HB.out | apply below_alloc | apply pw_below_drewN | apply below_drew1) | exact HB.out)⟩
 ·
  rw [if_neg c2] at H
  have c2b0 : decide (1048576 < (l0.length : Int)) = false := decide_eq_false c2
  have c2b1 : decide (1048576 < l0.length) = false := decide_eq_false (by omega)
  clear c2
  replace H := Option.bind_eq_some_iff.mp H
  obtain ⟨t341, A30, H⟩ := H
  replace H : ((impl_LogRead.f k t341).bind fun bt342 => ((spec_LogRead.f k t341).bind fun bt346 => (if bt342.2 = bt346.2 then ((laws_whWords.f k bt342.1 bt346.1).bind fun t350 => (if t350 = true then ((impl_LogOk.f k t341).bind fun t351 => ((spec_LogOk.f k t341).bind fun t352 => (if (t351 != t352) = true then (laws_FnLogRead.j0 k t341 bt342.1 bt342.2 true) else ((impl_LogMend.f k t341).bind fun t353 => ((spec_LogMend.f k t341).bind fun t354 => (laws_FnLogRead.j0 k t341 bt342.1 bt342.2 (t353.toList != t354.toList))))))) else (laws_FnLogRead.j0 k t341 bt342.1 bt342.2 true))) else (laws_FnLogRead.j0 k t341 bt342.1 bt342.2 true)))) = some r := H
  have A3 := Aside0.mk A30
  clear A30
  replace H := Option.bind_eq_some_iff.mp H
  obtain ⟨⟨t342, t343⟩, A40, H⟩ := H
  replace H : ((spec_LogRead.f k t341).bind fun bt346 => (if t343 = bt346.2 then ((laws_whWords.f k t342 bt346.1).bind fun t350 => (if t350 = true then ((impl_LogOk.f k t341).bind fun t351 => ((spec_LogOk.f k t341).bind fun t352 => (if (t351 != t352) = true then (laws_FnLogRead.j0 k t341 t342 t343 true) else ((impl_LogMend.f k t341).bind fun t353 => ((spec_LogMend.f k t341).bind fun t354 => (laws_FnLogRead.j0 k t341 t342 t343 (t353.toList != t354.toList))))))) else (laws_FnLogRead.j0 k t341 t342 t343 true))) else (laws_FnLogRead.j0 k t341 t342 t343 true))) = some r := H
  have A4 := Aside0.mk A40
  clear A40
  replace H := Option.bind_eq_some_iff.mp H
  obtain ⟨⟨t346, t347⟩, A50, H⟩ := H
  replace H : (if t343 = t347 then ((laws_whWords.f k t342 t346).bind fun t350 => (if t350 = true then ((impl_LogOk.f k t341).bind fun t351 => ((spec_LogOk.f k t341).bind fun t352 => (if (t351 != t352) = true then (laws_FnLogRead.j0 k t341 t342 t343 true) else ((impl_LogMend.f k t341).bind fun t353 => ((spec_LogMend.f k t341).bind fun t354 => (laws_FnLogRead.j0 k t341 t342 t343 (t353.toList != t354.toList))))))) else (laws_FnLogRead.j0 k t341 t342 t343 true))) else (laws_FnLogRead.j0 k t341 t342 t343 true)) = some r := H
  have A5 := Aside0.mk A50
  clear A50
  have HC6 := Aside0.mk H
  clear H
  go_enter Tryd.func8, Tryd.ntmps8
  go_upto_region 6 with (first | ((with_reducible refine gate_callee (f := 24) rfl ?_); refine goesL_ (some 15) rfl rfl Tryd.func24 (by kernel_rfl) rfl #[.slice A0 l0.length c0] rfl (by (try simp only [List.map_toArray, List.map_cons, List.map_nil]); first | done | rfl | (simp only [List.length_drop, List.length_take]; rfl)) ?_; (with_reducible refine (spec_DrawLogRead.calls k _ _ l0 t341 _ ?side1 ?side2 A3.out).mono ?_); (case side1 => repeat (first | exact HR0.out | (with_reducible refine Kd.C_alloc ?_ _) | (with_reducible refine Kd.C_drewN ?_ _) | (with_reducible refine Kd.C_drew ?_))); (case side2 => exact HC0.out); rintro e w7 ⟨rfl, hb⟩; refine ⟨_, rfl, ?_⟩; have n0_ := Aside0.mk (below_step (by repeat (first | (with_reducible first | exact HB.out | apply below_alloc | apply pw_below_drewN | apply below_drew1) | exact HB.out)) hb); clear HB; have HB := n0_; clear n0_; (try clear hb); (try clear hb2); (try clear hk); (try clear hi)) | ((with_reducible refine gate_callee (f := 18) rfl ?_); refine goesL_ (some 18) rfl rfl Tryd.func18 (by kernel_rfl) rfl #[.string t341] rfl (by (try simp only [List.map_toArray, List.map_cons, List.map_nil]); first | done | rfl | (simp only [List.length_drop, List.length_take]; rfl)) ?_; (with_reducible refine (impl_LogRead.calls k t341 t342 t343 _ ?side1 A4.out).mono ?_); (case side1 => exact Glob.on HG.out (by repeat (first | (with_reducible first | exact HB.out | apply below_alloc | apply pw_below_drewN | apply below_drew1) | exact HB.out))); rintro e w8 ⟨v344, rfl, ho0, hb⟩; refine ⟨_, rfl, ?_⟩; have n0_ := Aside0.mk (Kd.R_lower ho0 (below_size (by repeat (first | (with_reducible first | exact HB.out | apply below_alloc | apply pw_below_drewN | apply below_drew1) | exact HB.out)))); have n1_ := Aside0.mk (below_step (by repeat (first | (with_reducible first | exact HB.out | apply below_alloc | apply pw_below_drewN | apply below_drew1) | exact HB.out)) hb); clear HB; have HO345 := n0_; have HB := n1_; clear n0_ n1_; (try clear hb); (try clear hb2); (try clear hk); (try clear hi); (try clear ho0)) | ((with_reducible refine gate_callee (f := 17) rfl ?_); refine goesL_ (some 23) rfl rfl Tryd.func17 (by kernel_rfl) rfl #[.string t341] rfl (by (try simp only [List.map_toArray, List.map_cons, List.map_nil]); first | done | rfl | (simp only [List.length_drop, List.length_take]; rfl)) ?_; (with_reducible refine (spec_LogRead.calls k t341 t346 t347 _ A5.out).mono ?_); rintro e w9 ⟨v348, rfl, ho0, hb⟩; refine ⟨_, rfl, ?_⟩; have n0_ := Aside0.mk (Kd.R_elder' (by (with_reducible repeat (first | apply Kd.R_alloc | apply Kd.R_drewN | apply Kd.R_drew)); exact HO345.out) (Kd.R_base ho0) hb); have n1_ := Aside0.mk (Kd.R_lower (Kd.R_new' ho0 (Kd.R_lt (by (with_reducible repeat (first | apply Kd.R_alloc | apply Kd.R_drewN | apply Kd.R_drew)); exact HO345.out))) (below_size (by repeat (first | (with_reducible first | exact HB.out | apply below_alloc | apply pw_below_drewN | apply below_drew1) | exact HB.out)))); have n2_ := Aside0.mk (below_step (by repeat (first | (with_reducible first | exact HB.out | apply below_alloc | apply pw_below_drewN | apply below_drew1) | exact HB.out)) hb); clear HO345; clear HB; have HO345 := n0_; have HO349 := n1_; have HB := n2_; clear n0_ n1_ n2_; (try clear hb); (try clear hb2); (try clear hk); (try clear hi); (try clear ho0)))
  (try simp only [Act.put, List.setIfInBounds_toArray, List.set_cons_zero, List.set_cons_succ])
  go_cut [48] (fun v48 wc => ∃ (kq : Nat) (x48_5 : Bool), v48 = .bool x48_5 ∧ Aside0 (laws_FnLogRead.j0 kq t341 t342 t343 x48_5 = some r) ∧ Aside0 (kq ≤ k) ∧ Aside0 (Kd.R Kd.string 9 wc w.heap.size (fun _ => True) v344 t342) ∧ Aside0 (Below w.heap.size w wc))
  case first =>
   have H := HC6.out
   clear HC6
   by_cases c10 : t343 = t347
   ·
    rw [if_pos c10] at H
    have c10b0 : (t343 == t347) = true := beq_iff_eq.mpr c10
    have c10b1 : (t343 != t347) = false := bne_eq_false_iff_eq.mpr c10
    clear c10
    (first | rw [c10b0] | (simp only [i64_w, i32_w]; rw [c10b0]) | skip)
    replace H := Option.bind_eq_some_iff.mp H
    obtain ⟨t350, A110, H⟩ := H
    replace H : (if t350 = true then ((impl_LogOk.f k t341).bind fun t351 => ((spec_LogOk.f k t341).bind fun t352 => (if (t351 != t352) = true then (laws_FnLogRead.j0 k t341 t342 t343 true) else ((impl_LogMend.f k t341).bind fun t353 => ((spec_LogMend.f k t341).bind fun t354 => (laws_FnLogRead.j0 k t341 t342 t343 (t353.toList != t354.toList))))))) else (laws_FnLogRead.j0 k t341 t342 t343 true)) = some r := H
    have A11 := Aside0.mk A110
    clear A110
    by_cases c12 : t350 = true
    ·
     subst c12
     have H1 : ((impl_LogOk.f k t341).bind fun t351 => ((spec_LogOk.f k t341).bind fun t352 => (if (t351 != t352) = true then (laws_FnLogRead.j0 k t341 t342 t343 true) else ((impl_LogMend.f k t341).bind fun t353 => ((spec_LogMend.f k t341).bind fun t354 => (laws_FnLogRead.j0 k t341 t342 t343 (t353.toList != t354.toList))))))) = some r := by rw [if_pos rfl] at H; exact H
     clear H
     have H := H1
     clear H1
     replace H := Option.bind_eq_some_iff.mp H
     obtain ⟨t351, A130, H⟩ := H
     replace H : ((spec_LogOk.f k t341).bind fun t352 => (if (t351 != t352) = true then (laws_FnLogRead.j0 k t341 t342 t343 true) else ((impl_LogMend.f k t341).bind fun t353 => ((spec_LogMend.f k t341).bind fun t354 => (laws_FnLogRead.j0 k t341 t342 t343 (t353.toList != t354.toList)))))) = some r := H
     have A13 := Aside0.mk A130
     clear A130
     replace H := Option.bind_eq_some_iff.mp H
     obtain ⟨t352, A140, H⟩ := H
     replace H : (if (t351 != t352) = true then (laws_FnLogRead.j0 k t341 t342 t343 true) else ((impl_LogMend.f k t341).bind fun t353 => ((spec_LogMend.f k t341).bind fun t354 => (laws_FnLogRead.j0 k t341 t342 t343 (t353.toList != t354.toList))))) = some r := H
     have A14 := Aside0.mk A140
     clear A140
     by_cases c15 : (t351 != t352) = true
     ·
      rw [if_pos c15] at H
      have c15b0 : (t351 != t352) = true := c15
      (try (have c15b1 : decide (t351 = t352) = false := by simpa using c15))
      (try (have c15b2 : (t351 == t352) = false := by simpa using c15))
      (try (have c15b3 : ¬ (t351 = t352) := by simpa using c15))
      clear c15
      have H' := Aside0.mk H
      clear H
      obtain ⟨Ao16, co16, eo16⟩ := Kd.R_slice HO345.out
      subst eo16
      obtain ⟨Ao17, co17, eo17⟩ := Kd.R_slice HO349.out
      subst eo17
      go_wp2_with (first | (go_at_call 25; (with_reducible refine (laws_whWords.calls k _ _ t342 _ _ t346 true _ ?side1 ?side2 ?side3 ?side4 A11.out).mono ?_); (case side1 => repeat (first | exact (Kd.R_reads' HO345.out).2.2 | (with_reducible refine Kd.C_alloc ?_ _) | (with_reducible refine Kd.C_drewN ?_ _) | (with_reducible refine Kd.C_drew ?_))); (case side2 => exact (Kd.R_reads' HO345.out).2.1); (case side3 => repeat (first | exact (Kd.R_reads' HO349.out).2.2 | (with_reducible refine Kd.C_alloc ?_ _) | (with_reducible refine Kd.C_drewN ?_ _) | (with_reducible refine Kd.C_drew ?_))); (case side4 => exact (Kd.R_reads' HO349.out).2.1); rintro e w' ⟨rfl, ⟨nd, rfl⟩⟩) | (go_at_call 14; (with_reducible refine (impl_LogOk.calls k t341 t351 _ ?side1 A13.out).mono ?_); (case side1 => exact Glob.on HG.out (by repeat (first | (with_reducible first | exact HB.out | apply below_alloc | apply pw_below_drewN | apply below_drew1) | exact HB.out))); rintro e w18 ⟨rfl, hb⟩; have n0_ := Aside0.mk (Kd.R_below (by (with_reducible repeat (first | apply Kd.R_alloc | apply Kd.R_drewN | apply Kd.R_drew)); exact HO345.out) hb); have n1_ := Aside0.mk (Kd.R_below (by (with_reducible repeat (first | apply Kd.R_alloc | apply Kd.R_drewN | apply Kd.R_drew)); exact HO349.out) hb); have n2_ := Aside0.mk (below_step (by repeat (first | (with_reducible first | exact HB.out | apply below_alloc | apply pw_below_drewN | apply below_drew1) | exact HB.out)) hb); clear HO345; clear HO349; clear HB; have HO345 := n0_; have HO349 := n1_; have HB := n2_; clear n0_ n1_ n2_; (try clear hb); (try clear hb2); (try clear hk); (try clear hi)) | (go_at_call 13; (with_reducible refine (spec_LogOk.calls k t341 t352 _ A14.out).mono ?_); rintro e w19 ⟨rfl, hb⟩; have n0_ := Aside0.mk (Kd.R_below (by (with_reducible repeat (first | apply Kd.R_alloc | apply Kd.R_drewN | apply Kd.R_drew)); exact HO345.out) hb); have n1_ := Aside0.mk (Kd.R_below (by (with_reducible repeat (first | apply Kd.R_alloc | apply Kd.R_drewN | apply Kd.R_drew)); exact HO349.out) hb); have n2_ := Aside0.mk (below_step (by repeat (first | (with_reducible first | exact HB.out | apply below_alloc | apply pw_below_drewN | apply below_drew1) | exact HB.out)) hb); clear HO345; clear HO349; clear HB; have HO345 := n0_; have HO349 := n1_; have HB := n2_; clear n0_ n1_ n2_; (try clear hb); (try clear hb2); (try clear hk); (try clear hi)))
      go_meet
      case rel => exact ⟨_, (true), (by first | rfl | (simp; done) | (simp [*]; done)), H', ⟨by first | omega | exact Nat.le_refl _⟩, ⟨by (with_reducible repeat (first | apply Kd.R_alloc | apply Kd.R_drewN | apply Kd.R_drew)); exact Kd.R_mono HO345.out (fun _ hk => trivial)⟩, ⟨by repeat (first | (with_reducible first | exact HB.out | apply below_alloc | apply pw_below_drewN | apply below_drew1) | exact HB.out)⟩⟩
     ·
      rw [if_neg c15] at H
      have c15b0 : (t351 != t352) = false := by simpa using c15
      (try (have c15b1 : decide (t351 = t352) = true := by simpa using c15))
      (try (have c15b2 : (t351 == t352) = true := by simpa using c15))
      clear c15
      replace H := Option.bind_eq_some_iff.mp H
      obtain ⟨t353, A200, H⟩ := H
      replace H : ((spec_LogMend.f k t341).bind fun t354 => (laws_FnLogRead.j0 k t341 t342 t343 (t353.toList != t354.toList))) = some r := H
      have A20 := Aside0.mk A200
      clear A200
      replace H := Option.bind_eq_some_iff.mp H
      obtain ⟨t354, A210, H⟩ := H
      replace H : (laws_FnLogRead.j0 k t341 t342 t343 (t353.toList != t354.toList)) = some r := H
      have A21 := Aside0.mk A210
      clear A210
      have H' := Aside0.mk H
      clear H
      obtain ⟨Ao22, co22, eo22⟩ := Kd.R_slice HO345.out
      subst eo22
      obtain ⟨Ao23, co23, eo23⟩ := Kd.R_slice HO349.out
      subst eo23
      go_wp2_with (first | (go_at_call 25; (with_reducible refine (laws_whWords.calls k _ _ t342 _ _ t346 true _ ?side1 ?side2 ?side3 ?side4 A11.out).mono ?_); (case side1 => repeat (first | exact (Kd.R_reads' HO345.out).2.2 | (with_reducible refine Kd.C_alloc ?_ _) | (with_reducible refine Kd.C_drewN ?_ _) | (with_reducible refine Kd.C_drew ?_))); (case side2 => exact (Kd.R_reads' HO345.out).2.1); (case side3 => repeat (first | exact (Kd.R_reads' HO349.out).2.2 | (with_reducible refine Kd.C_alloc ?_ _) | (with_reducible refine Kd.C_drewN ?_ _) | (with_reducible refine Kd.C_drew ?_))); (case side4 => exact (Kd.R_reads' HO349.out).2.1); rintro e w' ⟨rfl, ⟨nd, rfl⟩⟩) | (go_at_call 14; (with_reducible refine (impl_LogOk.calls k t341 t351 _ ?side1 A13.out).mono ?_); (case side1 => exact Glob.on HG.out (by repeat (first | (with_reducible first | exact HB.out | apply below_alloc | apply pw_below_drewN | apply below_drew1) | exact HB.out))); rintro e w24 ⟨rfl, hb⟩; have n0_ := Aside0.mk (Kd.R_below (by (with_reducible repeat (first | apply Kd.R_alloc | apply Kd.R_drewN | apply Kd.R_drew)); exact HO345.out) hb); have n1_ := Aside0.mk (Kd.R_below (by (with_reducible repeat (first | apply Kd.R_alloc | apply Kd.R_drewN | apply Kd.R_drew)); exact HO349.out) hb); have n2_ := Aside0.mk (below_step (by repeat (first | (with_reducible first | exact HB.out | apply below_alloc | apply pw_below_drewN | apply below_drew1) | exact HB.out)) hb); clear HO345; clear HO349; clear HB; have HO345 := n0_; have HO349 := n1_; have HB := n2_; clear n0_ n1_ n2_; (try clear hb); (try clear hb2); (try clear hk); (try clear hi)) | (go_at_call 13; (with_reducible refine (spec_LogOk.calls k t341 t352 _ A14.out).mono ?_); rintro e w25 ⟨rfl, hb⟩; have n0_ := Aside0.mk (Kd.R_below (by (with_reducible repeat (first | apply Kd.R_alloc | apply Kd.R_drewN | apply Kd.R_drew)); exact HO345.out) hb); have n1_ := Aside0.mk (Kd.R_below (by (with_reducible repeat (first | apply Kd.R_alloc | apply Kd.R_drewN | apply Kd.R_drew)); exact HO349.out) hb); have n2_ := Aside0.mk (below_step (by repeat (first | (with_reducible first | exact HB.out | apply below_alloc | apply pw_below_drewN | apply below_drew1) | exact HB.out)) hb); clear HO345; clear HO349; clear HB; have HO345 := n0_; have HO349 := n1_; have HB := n2_; clear n0_ n1_ n2_; (try clear hb); (try clear hb2); (try clear hk); (try clear hi)) | (go_at_call 12; (with_reducible refine (impl_LogMend.calls k t341 t353 _ ?side1 A20.out).mono ?_); (case side1 => exact Glob.on HG.out (by repeat (first | (with_reducible first | exact HB.out | apply below_alloc | apply pw_below_drewN | apply below_drew1) | exact HB.out))); rintro e w26 ⟨rfl, hb⟩; have n0_ := Aside0.mk (Kd.R_below (by (with_reducible repeat (first | apply Kd.R_alloc | apply Kd.R_drewN | apply Kd.R_drew)); exact HO345.out) hb); have n1_ := Aside0.mk (Kd.R_below (by (with_reducible repeat (first | apply Kd.R_alloc | apply Kd.R_drewN | apply Kd.R_drew)); exact HO349.out) hb); have n2_ := Aside0.mk (below_step (by repeat (first | (with_reducible first | exact HB.out | apply below_alloc | apply pw_below_drewN | apply below_drew1) | exact HB.out)) hb); clear HO345; clear HO349; clear HB; have HO345 := n0_; have HO349 := n1_; have HB := n2_; clear n0_ n1_ n2_; (try clear hb); (try clear hb2); (try clear hk); (try clear hi)) | (go_at_call 11; (with_reducible refine (spec_LogMend.calls k t341 t354 _ A21.out).mono ?_); rintro e w27 ⟨rfl, hb⟩; have n0_ := Aside0.mk (Kd.R_below (by (with_reducible repeat (first | apply Kd.R_alloc | apply Kd.R_drewN | apply Kd.R_drew)); exact HO345.out) hb); have n1_ := Aside0.mk (Kd.R_below (by (with_reducible repeat (first | apply Kd.R_alloc | apply Kd.R_drewN | apply Kd.R_drew)); exact HO349.out) hb); have n2_ := Aside0.mk (below_step (by repeat (first | (with_reducible first | exact HB.out | apply below_alloc | apply pw_below_drewN | apply below_drew1) | exact HB.out)) hb); clear HO345; clear HO349; clear HB; have HO345 := n0_; have HO349 := n1_; have HB := n2_; clear n0_ n1_ n2_; (try clear hb); (try clear hb2); (try clear hk); (try clear hi)))
      go_meet
      case rel => exact ⟨_, ((t353.toList != t354.toList)), (by first | rfl | (simp; done) | (simp [*]; done)), H', ⟨by first | omega | exact Nat.le_refl _⟩, ⟨by (with_reducible repeat (first | apply Kd.R_alloc | apply Kd.R_drewN | apply Kd.R_drew)); exact Kd.R_mono HO345.out (fun _ hk => trivial)⟩, ⟨by repeat (first | (with_reducible first | exact HB.out | apply below_alloc | apply pw_below_drewN | apply below_drew1) | exact HB.out)⟩⟩
    ·
     replace c12 := Bool.eq_false_iff.mpr c12
     subst c12
     have H1 : (laws_FnLogRead.j0 k t341 t342 t343 true) = some r := by rw [if_neg (show ¬ (false = true) by decide)] at H; exact H
     clear H
     have H := H1
     clear H1
     have H' := Aside0.mk H
     clear H
     obtain ⟨Ao28, co28, eo28⟩ := Kd.R_slice HO345.out
     subst eo28
     obtain ⟨Ao29, co29, eo29⟩ := Kd.R_slice HO349.out
     subst eo29
     go_wp2_with (first | (go_at_call 25; (with_reducible refine (laws_whWords.calls k _ _ t342 _ _ t346 false _ ?side1 ?side2 ?side3 ?side4 A11.out).mono ?_); (case side1 => repeat (first | exact (Kd.R_reads' HO345.out).2.2 | (with_reducible refine Kd.C_alloc ?_ _) | (with_reducible refine Kd.C_drewN ?_ _) | (with_reducible refine Kd.C_drew ?_))); (case side2 => exact (Kd.R_reads' HO345.out).2.1); (case side3 => repeat (first | exact (Kd.R_reads' HO349.out).2.2 | (with_reducible refine Kd.C_alloc ?_ _) | (with_reducible refine Kd.C_drewN ?_ _) | (with_reducible refine Kd.C_drew ?_))); (case side4 => exact (Kd.R_reads' HO349.out).2.1); rintro e w' ⟨rfl, ⟨nd, rfl⟩⟩))
     go_meet
     case rel => exact ⟨_, (true), (by first | rfl | (simp; done) | (simp [*]; done)), H', ⟨by first | omega | exact Nat.le_refl _⟩, ⟨by (with_reducible repeat (first | apply Kd.R_alloc | apply Kd.R_drewN | apply Kd.R_drew)); exact Kd.R_mono HO345.out (fun _ hk => trivial)⟩, ⟨by repeat (first | (with_reducible first | exact HB.out | apply below_alloc | apply pw_below_drewN | apply below_drew1) | exact HB.out)⟩⟩
   ·
    rw [if_neg c10] at H
    have c10b0 : (t343 == t347) = false := beq_eq_false_iff_ne.mpr c10
    have c10b1 : (t343 != t347) = true := bne_iff_ne.mpr c10
    (first | rw [c10b0] | (simp only [i64_w, i32_w]; rw [c10b0]) | skip)
    have H' := Aside0.mk H
    clear H
    go_wp2
    go_meet
    case rel => exact ⟨_, (true), (by first | rfl | (simp; done) | (simp [*]; done)), H', ⟨by first | omega | exact Nat.le_refl _⟩, ⟨by (with_reducible repeat (first | apply Kd.R_alloc | apply Kd.R_drewN | apply Kd.R_drew)); exact Kd.R_mono HO345.out (fun _ hk => trivial)⟩, ⟨by repeat (first | (with_reducible first | exact HB.out | apply below_alloc | apply pw_below_drewN | apply below_drew1) | exact HB.out)⟩⟩
  case rest =>
   clear HC6
   try clear c1
   try clear c2
   try clear c2b0
   try clear c2b1
   try clear p2
   try clear c8
   try clear c10
   try clear c10b0
   try clear c10b1
   try clear c12
   try clear c15
   try clear c15b0
   try clear c15b1
   try clear c15b2
   try clear c17
   try clear c18
   try clear c24
   obtain ⟨kq, x48_5, rfl, HA, HJ5, HO_4, HB⟩ := hcut
   cases kq with
   | zero => exact absurd HA.out (by simp [laws_FnLogRead.j0])
   | succ kj5 =>
    have H := HA.out
    clear HA
    simp only [laws_FnLogRead.j0] at H
    by_cases c30 : x48_5 = true
    ·
     subst c30
     have H1 : (some false) = some r := by rw [if_pos rfl] at H; exact H
     clear H
     have H := H1
     clear H1
     obtain rfl := Option.some.inj H
     go_wp2
     go_ret
     exact ⟨by first | rfl | (simp [errW_none, errW_some] <;> rfl) | (simp [*, errW_none, errW_some] <;> rfl), by repeat (first | (with_reducible first | exact HB.out | apply below_alloc | apply pw_below_drewN | apply below_drew1) | exact HB.out)⟩
    ·
     replace c30 := Bool.eq_false_iff.mpr c30
     subst c30
     have H1 : ((impl_LogMend.f kj5 t341).bind fun t355 => ((impl_LogRead.f kj5 t355).bind fun bt356 => ((laws_whIn.f t343 0 (t341.size : Int)).bind fun t360 => (if t360 = true then (if 0 ≤ t343 then (if t343 ≤ (t341.size : Int) then (if t355.toList = (t341.extract 0 (t343 : Int).toNat).toList then (if bt356.2 = t343 then ((laws_whWords.f kj5 bt356.1 t342).bind fun t361 => (if t361 = true then ((impl_LogOk.f kj5 t341).bind fun t362 => (if t343 = (t341.size : Int) then (laws_FnLogRead.j1 kj5 (t362 == (decide (t343 ≤ 9000)))) else (laws_FnLogRead.j1 kj5 (t362 == false)))) else (laws_FnLogRead.j1 kj5 false))) else (laws_FnLogRead.j1 kj5 false)) else (laws_FnLogRead.j1 kj5 false)) else (none)) else (none)) else (laws_FnLogRead.j1 kj5 false))))) = some r := by rw [if_neg (show ¬ (false = true) by decide)] at H; exact H
     clear H
     have H := H1
     clear H1
     replace H := Option.bind_eq_some_iff.mp H
     obtain ⟨t355, A310, H⟩ := H
     replace H : ((impl_LogRead.f kj5 t355).bind fun bt356 => ((laws_whIn.f t343 0 (t341.size : Int)).bind fun t360 => (if t360 = true then (if 0 ≤ t343 then (if t343 ≤ (t341.size : Int) then (if t355.toList = (t341.extract 0 (t343 : Int).toNat).toList then (if bt356.2 = t343 then ((laws_whWords.f kj5 bt356.1 t342).bind fun t361 => (if t361 = true then ((impl_LogOk.f kj5 t341).bind fun t362 => (if t343 = (t341.size : Int) then (laws_FnLogRead.j1 kj5 (t362 == (decide (t343 ≤ 9000)))) else (laws_FnLogRead.j1 kj5 (t362 == false)))) else (laws_FnLogRead.j1 kj5 false))) else (laws_FnLogRead.j1 kj5 false)) else (laws_FnLogRead.j1 kj5 false)) else (none)) else (none)) else (laws_FnLogRead.j1 kj5 false)))) = some r := H
     have A31 := Aside0.mk A310
     clear A310
     replace H := Option.bind_eq_some_iff.mp H
     obtain ⟨⟨t356, t357⟩, A320, H⟩ := H
     replace H : ((laws_whIn.f t343 0 (t341.size : Int)).bind fun t360 => (if t360 = true then (if 0 ≤ t343 then (if t343 ≤ (t341.size : Int) then (if t355.toList = (t341.extract 0 (t343 : Int).toNat).toList then (if t357 = t343 then ((laws_whWords.f kj5 t356 t342).bind fun t361 => (if t361 = true then ((impl_LogOk.f kj5 t341).bind fun t362 => (if t343 = (t341.size : Int) then (laws_FnLogRead.j1 kj5 (t362 == (decide (t343 ≤ 9000)))) else (laws_FnLogRead.j1 kj5 (t362 == false)))) else (laws_FnLogRead.j1 kj5 false))) else (laws_FnLogRead.j1 kj5 false)) else (laws_FnLogRead.j1 kj5 false)) else (none)) else (none)) else (laws_FnLogRead.j1 kj5 false))) = some r := H
     have A32 := Aside0.mk A320
     clear A320
     have HC33 := Aside0.mk H
     clear H
     go_upto_region 10 with (first | ((with_reducible refine gate_callee (f := 12) rfl ?_); refine goesL_ (some 50) rfl rfl Tryd.func12 (by kernel_rfl) rfl #[.string t341] rfl (by (try simp only [List.map_toArray, List.map_cons, List.map_nil]); first | done | rfl | (simp only [List.length_drop, List.length_take]; rfl)) ?_; (with_reducible refine (impl_LogMend.calls kj5 t341 t355 _ ?side1 A31.out).mono ?_); (case side1 => exact Glob.on HG.out (by repeat (first | (with_reducible first | exact HB.out | apply below_alloc | apply pw_below_drewN | apply below_drew1) | exact HB.out))); rintro e w34 ⟨rfl, hb⟩; refine ⟨_, rfl, ?_⟩; have n0_ := Aside0.mk (Kd.R_below (by (with_reducible repeat (first | apply Kd.R_alloc | apply Kd.R_drewN | apply Kd.R_drew)); exact HO_4.out) hb); have n1_ := Aside0.mk (below_step (by repeat (first | (with_reducible first | exact HB.out | apply below_alloc | apply pw_below_drewN | apply below_drew1) | exact HB.out)) hb); clear HO_4; clear HB; have HO_4 := n0_; have HB := n1_; clear n0_ n1_; (try clear hb); (try clear hb2); (try clear hk); (try clear hi)) | ((with_reducible refine gate_callee (f := 18) rfl ?_); refine goesL_ (some 53) rfl rfl Tryd.func18 (by kernel_rfl) rfl #[.string t355] rfl (by (try simp only [List.map_toArray, List.map_cons, List.map_nil]); first | done | rfl | (simp only [List.length_drop, List.length_take]; rfl)) ?_; (with_reducible refine (impl_LogRead.calls kj5 t355 t356 t357 _ ?side1 A32.out).mono ?_); (case side1 => exact Glob.on HG.out (by repeat (first | (with_reducible first | exact HB.out | apply below_alloc | apply pw_below_drewN | apply below_drew1) | exact HB.out))); rintro e w35 ⟨v358, rfl, ho0, hb⟩; refine ⟨_, rfl, ?_⟩; have n0_ := Aside0.mk (Kd.R_elder' (by (with_reducible repeat (first | apply Kd.R_alloc | apply Kd.R_drewN | apply Kd.R_drew)); exact HO_4.out) (Kd.R_base ho0) hb); have n1_ := Aside0.mk (Kd.R_lower (Kd.R_new' ho0 (Kd.R_lt (by (with_reducible repeat (first | apply Kd.R_alloc | apply Kd.R_drewN | apply Kd.R_drew)); exact HO_4.out))) (below_size (by repeat (first | (with_reducible first | exact HB.out | apply below_alloc | apply pw_below_drewN | apply below_drew1) | exact HB.out)))); have n2_ := Aside0.mk (below_step (by repeat (first | (with_reducible first | exact HB.out | apply below_alloc | apply pw_below_drewN | apply below_drew1) | exact HB.out)) hb); clear HO_4; clear HB; have HO_4 := n0_; have HO359 := n1_; have HB := n2_; clear n0_ n1_ n2_; (try clear hb); (try clear hb2); (try clear hk); (try clear hi); (try clear ho0)))
     (try simp only [Act.put, List.setIfInBounds_toArray, List.set_cons_zero, List.set_cons_succ])
     go_cut [2] (fun v2 wc => ∃ (kq : Nat) (x2_32 : Bool), v2 = .bool x2_32 ∧ Aside0 (laws_FnLogRead.j1 kq x2_32 = some r) ∧ Aside0 (kq ≤ kj5) ∧ Aside0 (Below w.heap.size w wc))
     case first =>
      have H := HC33.out
      clear HC33
      replace H := Option.bind_eq_some_iff.mp H
      obtain ⟨t360, A360, H⟩ := H
      replace H : (if t360 = true then (if 0 ≤ t343 then (if t343 ≤ (t341.size : Int) then (if t355.toList = (t341.extract 0 (t343 : Int).toNat).toList then (if t357 = t343 then ((laws_whWords.f kj5 t356 t342).bind fun t361 => (if t361 = true then ((impl_LogOk.f kj5 t341).bind fun t362 => (if t343 = (t341.size : Int) then (laws_FnLogRead.j1 kj5 (t362 == (decide (t343 ≤ 9000)))) else (laws_FnLogRead.j1 kj5 (t362 == false)))) else (laws_FnLogRead.j1 kj5 false))) else (laws_FnLogRead.j1 kj5 false)) else (laws_FnLogRead.j1 kj5 false)) else (none)) else (none)) else (laws_FnLogRead.j1 kj5 false)) = some r := H
      have A36 := Aside0.mk A360
      clear A360
      by_cases c37 : t360 = true
      ·
       subst c37
       have H1 : (if 0 ≤ t343 then (if t343 ≤ (t341.size : Int) then (if t355.toList = (t341.extract 0 (t343 : Int).toNat).toList then (if t357 = t343 then ((laws_whWords.f kj5 t356 t342).bind fun t361 => (if t361 = true then ((impl_LogOk.f kj5 t341).bind fun t362 => (if t343 = (t341.size : Int) then (laws_FnLogRead.j1 kj5 (t362 == (decide (t343 ≤ 9000)))) else (laws_FnLogRead.j1 kj5 (t362 == false)))) else (laws_FnLogRead.j1 kj5 false))) else (laws_FnLogRead.j1 kj5 false)) else (laws_FnLogRead.j1 kj5 false)) else (none)) else (none)) = some r := by rw [if_pos rfl] at H; exact H
       clear H
       have H := H1
       clear H1
       by_cases c38 : 0 ≤ t343
       ·
        rw [if_pos c38] at H
        have c38b0 := eq_true c38
        have c38b1 : decide (0 ≤ t343) = true := decide_eq_true c38
        clear c38
        by_cases c39 : t343 ≤ (t341.size : Int)
        ·
         rw [if_pos c39] at H
         have c39b0 := eq_true c39
         have c39b1 : decide (t343 ≤ (t341.size : Int)) = true := decide_eq_true c39
         clear c39
         by_cases c40 : t355.toList = (t341.extract 0 (t343 : Int).toNat).toList
         ·
          rw [if_pos c40] at H
          have c40b0 : (t355.toList == (t341.extract 0 (t343 : Int).toNat).toList) = true := beq_iff_eq.mpr c40
          have c40b1 : (t355.toList != (t341.extract 0 (t343 : Int).toNat).toList) = false := bne_eq_false_iff_eq.mpr c40
          clear c40
          (first | rw [c40b0] | (simp only [i64_w, i32_w]; rw [c40b0]) | skip)
          by_cases c41 : t357 = t343
          ·
           rw [if_pos c41] at H
           have c41b0 : (t357 == t343) = true := beq_iff_eq.mpr c41
           have c41b1 : (t357 != t343) = false := bne_eq_false_iff_eq.mpr c41
           clear c41
           replace H := Option.bind_eq_some_iff.mp H
           obtain ⟨t361, A420, H⟩ := H
           replace H : (if t361 = true then ((impl_LogOk.f kj5 t341).bind fun t362 => (if t343 = (t341.size : Int) then (laws_FnLogRead.j1 kj5 (t362 == (decide (t343 ≤ 9000)))) else (laws_FnLogRead.j1 kj5 (t362 == false)))) else (laws_FnLogRead.j1 kj5 false)) = some r := H
           have A42 := Aside0.mk A420
           clear A420
           by_cases c43 : t361 = true
           ·
            subst c43
            have H1 : ((impl_LogOk.f kj5 t341).bind fun t362 => (if t343 = (t341.size : Int) then (laws_FnLogRead.j1 kj5 (t362 == (decide (t343 ≤ 9000)))) else (laws_FnLogRead.j1 kj5 (t362 == false)))) = some r := by rw [if_pos rfl] at H; exact H
            clear H
            have H := H1
            clear H1
            replace H := Option.bind_eq_some_iff.mp H
            obtain ⟨t362, A440, H⟩ := H
            replace H : (if t343 = (t341.size : Int) then (laws_FnLogRead.j1 kj5 (t362 == (decide (t343 ≤ 9000)))) else (laws_FnLogRead.j1 kj5 (t362 == false))) = some r := H
            have A44 := Aside0.mk A440
            clear A440
            by_cases c45 : t343 = (t341.size : Int)
            ·
             rw [if_pos c45] at H
             have c45b0 : (t343 == (t341.size : Int)) = true := beq_iff_eq.mpr c45
             have c45b1 : (t343 != (t341.size : Int)) = false := bne_eq_false_iff_eq.mpr c45
             clear c45
             have H' := Aside0.mk H
             clear H
             go_wp2_with (first | ((with_reducible refine gate_callee (f := 26) rfl ?_); refine goesL_ (some 59) rfl rfl Tryd.func26 (by kernel_rfl) rfl #[.int .i64 t343, .int .i64 0, .int .i64 (t341.size : Int)] rfl (by (try simp only [List.map_toArray, List.map_cons, List.map_nil]); first | done | rfl | (simp only [List.length_drop, List.length_take]; rfl)) ?_; (with_reducible refine (laws_whIn.calls t343 0 (t341.size : Int) true _ A36.out).mono ?_); rintro e w' ⟨rfl, ⟨nd, rfl⟩⟩; refine ⟨_, rfl, ?_⟩; obtain ⟨Ao46, co46, eo46⟩ := Kd.R_slice HO359.out; subst eo46; obtain ⟨Ao47, co47, eo47⟩ := Kd.R_slice HO_4.out; subst eo47) | (go_at_call 25; (with_reducible refine (laws_whWords.calls kj5 _ _ t356 _ _ t342 true _ ?side1 ?side2 ?side3 ?side4 A42.out).mono ?_); (case side1 => repeat (first | exact (Kd.R_reads' HO359.out).2.2 | (with_reducible refine Kd.C_alloc ?_ _) | (with_reducible refine Kd.C_drewN ?_ _) | (with_reducible refine Kd.C_drew ?_))); (case side2 => exact (Kd.R_reads' HO359.out).2.1); (case side3 => repeat (first | exact (Kd.R_reads' HO_4.out).2.2 | (with_reducible refine Kd.C_alloc ?_ _) | (with_reducible refine Kd.C_drewN ?_ _) | (with_reducible refine Kd.C_drew ?_))); (case side4 => exact (Kd.R_reads' HO_4.out).2.1); rintro e w' ⟨rfl, ⟨nd, rfl⟩⟩) | (go_at_call 14; (with_reducible refine (impl_LogOk.calls kj5 t341 t362 _ ?side1 A44.out).mono ?_); (case side1 => exact Glob.on HG.out (by repeat (first | (with_reducible first | exact HB.out | apply below_alloc | apply pw_below_drewN | apply below_drew1) | exact HB.out))); rintro e w48 ⟨rfl, hb⟩; have n0_ := Aside0.mk (Kd.R_below (by (with_reducible repeat (first | apply Kd.R_alloc | apply Kd.R_drewN | apply Kd.R_drew)); exact HO_4.out) hb); have n1_ := Aside0.mk (Kd.R_below (by (with_reducible repeat (first | apply Kd.R_alloc | apply Kd.R_drewN | apply Kd.R_drew)); exact HO359.out) hb); have n2_ := Aside0.mk (below_step (by repeat (first | (with_reducible first | exact HB.out | apply below_alloc | apply pw_below_drewN | apply below_drew1) | exact HB.out)) hb); clear HO_4; clear HO359; clear HB; have HO_4 := n0_; have HO359 := n1_; have HB := n2_; clear n0_ n1_ n2_; (try clear hb); (try clear hb2); (try clear hk); (try clear hi)))
             go_meet
             case rel => exact ⟨_, ((t362 == (decide (t343 ≤ 9000)))), (by first | rfl | (simp; done) | (simp [*]; done)), H', ⟨by have := HJ5.out; first | omega | exact Nat.le_refl _⟩, ⟨by repeat (first | (with_reducible first | exact HB.out | apply below_alloc | apply pw_below_drewN | apply below_drew1) | exact HB.out)⟩⟩
            ·
             rw [if_neg c45] at H
             have c45b0 : (t343 == (t341.size : Int)) = false := beq_eq_false_iff_ne.mpr c45
             have c45b1 : (t343 != (t341.size : Int)) = true := bne_iff_ne.mpr c45
             have H' := Aside0.mk H
             clear H
             go_wp2_with (first | ((with_reducible refine gate_callee (f := 26) rfl ?_); refine goesL_ (some 59) rfl rfl Tryd.func26 (by kernel_rfl) rfl #[.int .i64 t343, .int .i64 0, .int .i64 (t341.size : Int)] rfl (by (try simp only [List.map_toArray, List.map_cons, List.map_nil]); first | done | rfl | (simp only [List.length_drop, List.length_take]; rfl)) ?_; (with_reducible refine (laws_whIn.calls t343 0 (t341.size : Int) true _ A36.out).mono ?_); rintro e w' ⟨rfl, ⟨nd, rfl⟩⟩; refine ⟨_, rfl, ?_⟩; obtain ⟨Ao49, co49, eo49⟩ := Kd.R_slice HO359.out; subst eo49; obtain ⟨Ao50, co50, eo50⟩ := Kd.R_slice HO_4.out; subst eo50) | (go_at_call 25; (with_reducible refine (laws_whWords.calls kj5 _ _ t356 _ _ t342 true _ ?side1 ?side2 ?side3 ?side4 A42.out).mono ?_); (case side1 => repeat (first | exact (Kd.R_reads' HO359.out).2.2 | (with_reducible refine Kd.C_alloc ?_ _) | (with_reducible refine Kd.C_drewN ?_ _) | (with_reducible refine Kd.C_drew ?_))); (case side2 => exact (Kd.R_reads' HO359.out).2.1); (case side3 => repeat (first | exact (Kd.R_reads' HO_4.out).2.2 | (with_reducible refine Kd.C_alloc ?_ _) | (with_reducible refine Kd.C_drewN ?_ _) | (with_reducible refine Kd.C_drew ?_))); (case side4 => exact (Kd.R_reads' HO_4.out).2.1); rintro e w' ⟨rfl, ⟨nd, rfl⟩⟩) | (go_at_call 14; (with_reducible refine (impl_LogOk.calls kj5 t341 t362 _ ?side1 A44.out).mono ?_); (case side1 => exact Glob.on HG.out (by repeat (first | (with_reducible first | exact HB.out | apply below_alloc | apply pw_below_drewN | apply below_drew1) | exact HB.out))); rintro e w51 ⟨rfl, hb⟩; have n0_ := Aside0.mk (Kd.R_below (by (with_reducible repeat (first | apply Kd.R_alloc | apply Kd.R_drewN | apply Kd.R_drew)); exact HO_4.out) hb); have n1_ := Aside0.mk (Kd.R_below (by (with_reducible repeat (first | apply Kd.R_alloc | apply Kd.R_drewN | apply Kd.R_drew)); exact HO359.out) hb); have n2_ := Aside0.mk (below_step (by repeat (first | (with_reducible first | exact HB.out | apply below_alloc | apply pw_below_drewN | apply below_drew1) | exact HB.out)) hb); clear HO_4; clear HO359; clear HB; have HO_4 := n0_; have HO359 := n1_; have HB := n2_; clear n0_ n1_ n2_; (try clear hb); (try clear hb2); (try clear hk); (try clear hi)))
             go_meet
             case rel => exact ⟨_, ((t362 == false)), (by first | rfl | (simp; done) | (simp [*]; done)), H', ⟨by have := HJ5.out; first | omega | exact Nat.le_refl _⟩, ⟨by repeat (first | (with_reducible first | exact HB.out | apply below_alloc | apply pw_below_drewN | apply below_drew1) | exact HB.out)⟩⟩
           ·
            replace c43 := Bool.eq_false_iff.mpr c43
            subst c43
            have H1 : (laws_FnLogRead.j1 kj5 false) = some r := by rw [if_neg (show ¬ (false = true) by decide)] at H; exact H
            clear H
            have H := H1
            clear H1
            have H' := Aside0.mk H
            clear H
            go_wp2_with (first | ((with_reducible refine gate_callee (f := 26) rfl ?_); refine goesL_ (some 59) rfl rfl Tryd.func26 (by kernel_rfl) rfl #[.int .i64 t343, .int .i64 0, .int .i64 (t341.size : Int)] rfl (by (try simp only [List.map_toArray, List.map_cons, List.map_nil]); first | done | rfl | (simp only [List.length_drop, List.length_take]; rfl)) ?_; (with_reducible refine (laws_whIn.calls t343 0 (t341.size : Int) true _ A36.out).mono ?_); rintro e w' ⟨rfl, ⟨nd, rfl⟩⟩; refine ⟨_, rfl, ?_⟩; obtain ⟨Ao52, co52, eo52⟩ := Kd.R_slice HO359.out; subst eo52; obtain ⟨Ao53, co53, eo53⟩ := Kd.R_slice HO_4.out; subst eo53) | (go_at_call 25; (with_reducible refine (laws_whWords.calls kj5 _ _ t356 _ _ t342 false _ ?side1 ?side2 ?side3 ?side4 A42.out).mono ?_); (case side1 => repeat (first | exact (Kd.R_reads' HO359.out).2.2 | (with_reducible refine Kd.C_alloc ?_ _) | (with_reducible refine Kd.C_drewN ?_ _) | (with_reducible refine Kd.C_drew ?_))); (case side2 => exact (Kd.R_reads' HO359.out).2.1); (case side3 => repeat (first | exact (Kd.R_reads' HO_4.out).2.2 | (with_reducible refine Kd.C_alloc ?_ _) | (with_reducible refine Kd.C_drewN ?_ _) | (with_reducible refine Kd.C_drew ?_))); (case side4 => exact (Kd.R_reads' HO_4.out).2.1); rintro e w' ⟨rfl, ⟨nd, rfl⟩⟩))
            go_meet
            case rel => exact ⟨_, (false), (by first | rfl | (simp; done) | (simp [*]; done)), H', ⟨by have := HJ5.out; first | omega | exact Nat.le_refl _⟩, ⟨by repeat (first | (with_reducible first | exact HB.out | apply below_alloc | apply pw_below_drewN | apply below_drew1) | exact HB.out)⟩⟩
          ·
           rw [if_neg c41] at H
           have c41b0 : (t357 == t343) = false := beq_eq_false_iff_ne.mpr c41
           have c41b1 : (t357 != t343) = true := bne_iff_ne.mpr c41
           have H' := Aside0.mk H
           clear H
           go_wp2_with (first | ((with_reducible refine gate_callee (f := 26) rfl ?_); refine goesL_ (some 59) rfl rfl Tryd.func26 (by kernel_rfl) rfl #[.int .i64 t343, .int .i64 0, .int .i64 (t341.size : Int)] rfl (by (try simp only [List.map_toArray, List.map_cons, List.map_nil]); first | done | rfl | (simp only [List.length_drop, List.length_take]; rfl)) ?_; (with_reducible refine (laws_whIn.calls t343 0 (t341.size : Int) true _ A36.out).mono ?_); rintro e w' ⟨rfl, ⟨nd, rfl⟩⟩; refine ⟨_, rfl, ?_⟩))
           go_meet
           case rel => exact ⟨_, (false), (by first | rfl | (simp; done) | (simp [*]; done)), H', ⟨by have := HJ5.out; first | omega | exact Nat.le_refl _⟩, ⟨by repeat (first | (with_reducible first | exact HB.out | apply below_alloc | apply pw_below_drewN | apply below_drew1) | exact HB.out)⟩⟩
         ·
          rw [if_neg c40] at H
          have c40b0 : (t355.toList == (t341.extract 0 (t343 : Int).toNat).toList) = false := beq_eq_false_iff_ne.mpr c40
          have c40b1 : (t355.toList != (t341.extract 0 (t343 : Int).toNat).toList) = true := bne_iff_ne.mpr c40
          (first | rw [c40b0] | (simp only [i64_w, i32_w]; rw [c40b0]) | skip)
          have H' := Aside0.mk H
          clear H
          go_wp2_with (first | ((with_reducible refine gate_callee (f := 26) rfl ?_); refine goesL_ (some 59) rfl rfl Tryd.func26 (by kernel_rfl) rfl #[.int .i64 t343, .int .i64 0, .int .i64 (t341.size : Int)] rfl (by (try simp only [List.map_toArray, List.map_cons, List.map_nil]); first | done | rfl | (simp only [List.length_drop, List.length_take]; rfl)) ?_; (with_reducible refine (laws_whIn.calls t343 0 (t341.size : Int) true _ A36.out).mono ?_); rintro e w' ⟨rfl, ⟨nd, rfl⟩⟩; refine ⟨_, rfl, ?_⟩))
          go_meet
          case rel => exact ⟨_, (false), (by first | rfl | (simp; done) | (simp [*]; done)), H', ⟨by have := HJ5.out; first | omega | exact Nat.le_refl _⟩, ⟨by repeat (first | (with_reducible first | exact HB.out | apply below_alloc | apply pw_below_drewN | apply below_drew1) | exact HB.out)⟩⟩
        ·
         rw [if_neg c39] at H
         exact absurd H (by simp)
       ·
        rw [if_neg c38] at H
        exact absurd H (by simp)
      ·
       replace c37 := Bool.eq_false_iff.mpr c37
       subst c37
       have H1 : (laws_FnLogRead.j1 kj5 false) = some r := by rw [if_neg (show ¬ (false = true) by decide)] at H; exact H
       clear H
       have H := H1
       clear H1
       have H' := Aside0.mk H
       clear H
       go_wp2_with (first | ((with_reducible refine gate_callee (f := 26) rfl ?_); refine goesL_ (some 59) rfl rfl Tryd.func26 (by kernel_rfl) rfl #[.int .i64 t343, .int .i64 0, .int .i64 (t341.size : Int)] rfl (by (try simp only [List.map_toArray, List.map_cons, List.map_nil]); first | done | rfl | (simp only [List.length_drop, List.length_take]; rfl)) ?_; (with_reducible refine (laws_whIn.calls t343 0 (t341.size : Int) false _ A36.out).mono ?_); rintro e w' ⟨rfl, ⟨nd, rfl⟩⟩; refine ⟨_, rfl, ?_⟩))
       go_meet
       case rel => exact ⟨_, (false), (by first | rfl | (simp; done) | (simp [*]; done)), H', ⟨by have := HJ5.out; first | omega | exact Nat.le_refl _⟩, ⟨by repeat (first | (with_reducible first | exact HB.out | apply below_alloc | apply pw_below_drewN | apply below_drew1) | exact HB.out)⟩⟩
     case rest =>
      clear HC33
      try clear c1
      try clear c2
      try clear c2b0
      try clear c2b1
      try clear p2
      try clear c3
      try clear c4
      try clear c8
      try clear c10
      try clear c10b0
      try clear c10b1
      try clear c12
      try clear c15
      try clear c15b0
      try clear c15b1
      try clear c15b2
      try clear c17
      try clear c18
      try clear c24
      try clear c26
      try clear c30
      try clear c37
      try clear c38
      try clear c38b0
      try clear c38b1
      try clear c39
      try clear c39b0
      try clear c39b1
      try clear c40
      try clear c40b0
      try clear c40b1
      try clear c41
      try clear c41b0
      try clear c41b1
      try clear c43
      try clear c45
      try clear c45b0
      try clear c45b1
      try clear p2
      obtain ⟨kq, x2_32, rfl, HA, HJ32, HB⟩ := hcut
      cases kq with
      | zero => exact absurd HA.out (by simp [laws_FnLogRead.j1])
      | succ kj32 =>
       have H := HA.out
       clear HA
       simp only [laws_FnLogRead.j1] at H
       obtain rfl := Option.some.inj H
       go_wp2
       go_ret
       exact ⟨by first | rfl | (simp [errW_none, errW_some] <;> rfl) | (simp [*, errW_none, errW_some] <;> rfl), by repeat (first | (with_reducible first | exact HB.out | apply below_alloc | apply pw_below_drewN | apply below_drew1) | exact HB.out)⟩

/-- THE ONE PURE STATEMENT of laws_FnLogRead: yours. -/
def laws_FnLogRead.Pure : Prop := ∀ (l0 : List Int), l0.length ≤ maxLen → l0.length * 1 ≤ 140737488351232 → (∀ x ∈ l0, (Lit.int .u8 x).wf = true) → ∃ k, laws_FnLogRead.f k l0 = some true
theorem laws_FnLogRead.walk (P : laws_FnLogRead.Pure) (a0 : Option Addr) (len0 cap0 : Nat) (z0 : List Int) (w : World) (w0 : (a0 = none ∧ len0 = 0 ∧ cap0 = 0 ∧ z0 = []) ∨ ∃ x, a0 = some x ∧ len0 ≤ cap0 ∧ cap0 ≤ maxLen ∧ z0.length = cap0 ∧ (∀ i, i < z0.length → w.cell? (x.add i) = some (.int .u8 (z0.getD i 0))) ∧ ∀ n ∈ z0, (Lit.int .u8 n).wf = true) (y0 : len0 * 1 ≤ 140737488351232) (hG : Glob w) :
  Calls Tryd.prog 8 #[.slice a0 len0 cap0] w fun e w' => e = .returned (.bool true) ∧ Below w.heap.size w w' := by
 obtain ⟨l0, rfl, hr0, hm0, hw0, hc0⟩ := ReadsInt.ofRowC w0
 obtain ⟨k, h⟩ := P l0 hm0 y0 hw0
 refine (laws_FnLogRead.calls k _ _ l0 true w (Kd.C_of_reads (d := (0 : Int)) (h1 := fun _ => rfl) hr0) hc0 hG h).mono ?_
 rintro e w' ⟨rfl, hd⟩
 exact ⟨rfl, hd⟩

/-! ### impl_LogAdd: function 16 -/
def impl_LogAdd.j0 : Nat → ByteArray → ByteArray → List ByteArray → Bool → Option (ByteArray × Bool)
 | 0, _, _, _, _ => none
 | k + 1, x0, x1, x6, x27 => if x27 = true then (some ((⟨#[]⟩ : ByteArray), false)) else ((impl_logLine.f k (x6.length : Int) x1).bind fun t368 => (if x0.size + t368.size ≤ 9223372036854775807 then (if ((x0 ++ t368).size : Int) > 9000 then (some ((⟨#[]⟩ : ByteArray), false)) else (some (x0 ++ t368, true))) else (none)))
def impl_LogAdd.f (k : Nat) (a0 : ByteArray) (a1 : ByteArray) : Option (ByteArray × Bool) := (impl_LogRead.f k a0).bind fun bt363 => (if bt363.2 = (a0.size : Int) then (if bt363.2 > 9000 then (impl_LogAdd.j0 k a0 a1 bt363.1 true) else ((impl_within.f (a1.size : Int) 1 500).bind fun t367 => (impl_LogAdd.j0 k a0 a1 bt363.1 (!t367)))) else (impl_LogAdd.j0 k a0 a1 bt363.1 true))
theorem impl_LogAdd.mono_l : ∀ k, (∀ y0 y1 y2 y3, LeO (impl_LogAdd.j0 k y0 y1 y2 y3) (impl_LogAdd.j0 (k + 1) y0 y1 y2 y3))
 | 0 => fun _ _ _ _ r h => by simp [impl_LogAdd.j0] at h
 | k + 1 => by
  have ih0 := impl_LogAdd.mono_l k
  ·
   intro y0 y1 y2 y3
   unfold impl_LogAdd.j0
   repeat' first
   | (with_reducible exact ih0 _ _ _ _)
   | (with_reducible exact impl_LogRead.mono _ _)
   | (with_reducible exact impl_logLine.mono _ _ _)
   | (with_reducible exact LeO.refl _)
   | (with_reducible exact LeO.none _)
   | (with_reducible refine LeO.ite ?_ ?_)
   | (with_reducible refine LeO.bind ?_ (fun _ => ?_))
   | exact ih0 _ _ _ _
   | exact impl_LogRead.mono _ _
   | exact impl_logLine.mono _ _ _
   | exact LeO.none _
   | refine LeO.ite ?_ ?_
   | refine LeO.bind ?_ (fun _ => ?_)
theorem impl_LogAdd.mono : ∀ a0 a1 k, LeO (impl_LogAdd.f k a0 a1) (impl_LogAdd.f (k + 1) a0 a1) := by
 intro a0 a1 k
 have ih0 := impl_LogAdd.mono_l k
 unfold impl_LogAdd.f
 repeat' first
   | (with_reducible exact ih0 _ _ _ _)
   | (with_reducible exact impl_LogRead.mono _ _)
   | (with_reducible exact impl_logLine.mono _ _ _)
   | (with_reducible exact LeO.refl _)
   | (with_reducible exact LeO.none _)
   | (with_reducible refine LeO.ite ?_ ?_)
   | (with_reducible refine LeO.bind ?_ (fun _ => ?_))
   | exact ih0 _ _ _ _
   | exact impl_LogRead.mono _ _
   | exact impl_logLine.mono _ _ _
   | exact LeO.none _
   | refine LeO.ite ?_ ?_
   | refine LeO.bind ?_ (fun _ => ?_)
set_option maxHeartbeats 8000000 in
set_option maxRecDepth 100000 in
theorem impl_LogAdd.calls (k : Nat) (a0 : ByteArray) (a1 : ByteArray) (r1 : ByteArray) (r2 : Bool) (w : World) (hG : Glob w) (h : impl_LogAdd.f k a0 a1 = some (r1, r2)) :
  Calls Tryd.prog 16 #[.string a0, .string a1] w fun e w' => e = .returned (.tuple #[.string r1, .bool r2]) ∧ Below w.heap.size w w' := by
 have HG := Aside0.mk hG
 clear hG
 have HB := Aside0.mk (Below.refl w.heap.size w)
 have H : ((impl_LogRead.f k a0).bind fun bt363 => (if bt363.2 = (a0.size : Int) then (if bt363.2 > 9000 then (impl_LogAdd.j0 k a0 a1 bt363.1 true) else ((impl_within.f (a1.size : Int) 1 500).bind fun t367 => (impl_LogAdd.j0 k a0 a1 bt363.1 (!t367)))) else (impl_LogAdd.j0 k a0 a1 bt363.1 true))) = some (r1, r2) := h
 clear h
 replace H := Option.bind_eq_some_iff.mp H
 obtain ⟨⟨t363, t364⟩, A30, H⟩ := H
 replace H : (if t364 = (a0.size : Int) then (if t364 > 9000 then (impl_LogAdd.j0 k a0 a1 t363 true) else ((impl_within.f (a1.size : Int) 1 500).bind fun t367 => (impl_LogAdd.j0 k a0 a1 t363 (!t367)))) else (impl_LogAdd.j0 k a0 a1 t363 true)) = some (r1, r2) := H
 have A3 := Aside0.mk A30
 clear A30
 have HC4 := Aside0.mk H
 clear H
 go_enter Tryd.func16, Tryd.ntmps16
 go_upto_region 2 with (first | ((with_reducible refine gate_callee (f := 18) rfl ?_); refine goesL_ (some 11) rfl rfl Tryd.func18 (by kernel_rfl) rfl #[.string a0] rfl (by (try simp only [List.map_toArray, List.map_cons, List.map_nil]); first | done | rfl | (simp only [List.length_drop, List.length_take]; rfl)) ?_; (with_reducible refine (impl_LogRead.calls k a0 t363 t364 _ ?side1 A3.out).mono ?_); (case side1 => exact Glob.on HG.out (by repeat (first | (with_reducible first | exact HB.out | apply below_alloc | apply pw_below_drewN | apply below_drew1) | exact HB.out))); rintro e w5 ⟨v365, rfl, ho0, hb⟩; refine ⟨_, rfl, ?_⟩; have n0_ := Aside0.mk (Kd.R_lower ho0 (below_size (by repeat (first | (with_reducible first | exact HB.out | apply below_alloc | apply pw_below_drewN | apply below_drew1) | exact HB.out)))); have n1_ := Aside0.mk (below_step (by repeat (first | (with_reducible first | exact HB.out | apply below_alloc | apply pw_below_drewN | apply below_drew1) | exact HB.out)) hb); clear HB; have HO366 := n0_; have HB := n1_; clear n0_ n1_; (try clear hb); (try clear hb2); (try clear hk); (try clear hi); (try clear ho0)))
 (try simp only [Act.put, List.setIfInBounds_toArray, List.set_cons_zero, List.set_cons_succ])
 go_cut [27] (fun v27 wc => ∃ (kq : Nat) (x27_3 : Bool), v27 = .bool x27_3 ∧ Aside0 (impl_LogAdd.j0 kq a0 a1 t363 x27_3 = some (r1, r2)) ∧ Aside0 (kq ≤ k) ∧ Aside0 (Kd.R Kd.string 9 wc w.heap.size (fun _ => True) v365 t363) ∧ Aside0 (Below w.heap.size w wc))
 case first =>
  have H := HC4.out
  clear HC4
  by_cases c6 : t364 = (a0.size : Int)
  ·
   rw [if_pos c6] at H
   have c6b0 : (t364 == (a0.size : Int)) = true := beq_iff_eq.mpr c6
   have c6b1 : (t364 != (a0.size : Int)) = false := bne_eq_false_iff_eq.mpr c6
   clear c6
   (first | rw [c6b0] | (simp only [i64_w, i32_w]; rw [c6b0]) | skip)
   by_cases c7 : t364 > 9000
   ·
    rw [if_pos c7] at H
    have c7b0 : decide (9000 < t364) = true := decide_eq_true c7
    clear c7
    have H' := Aside0.mk H
    clear H
    go_wp2
    go_meet
    case rel => exact ⟨_, (true), (by first | rfl | (simp; done) | (simp [*]; done)), H', ⟨by first | omega | exact Nat.le_refl _⟩, ⟨by (with_reducible repeat (first | apply Kd.R_alloc | apply Kd.R_drewN | apply Kd.R_drew)); exact HO366.out⟩, ⟨by repeat (first | (with_reducible first | exact HB.out | apply below_alloc | apply pw_below_drewN | apply below_drew1) | exact HB.out)⟩⟩
   ·
    rw [if_neg c7] at H
    have c7b0 : decide (9000 < t364) = false := decide_eq_false c7
    clear c7
    replace H := Option.bind_eq_some_iff.mp H
    obtain ⟨t367, A80, H⟩ := H
    replace H : (impl_LogAdd.j0 k a0 a1 t363 (!t367)) = some (r1, r2) := H
    have A8 := Aside0.mk A80
    clear A80
    have H' := Aside0.mk H
    clear H
    go_wp2_with (first | (go_at_call 32; (with_reducible refine (impl_within.calls (a1.size : Int) 1 500 t367 _ A8.out).mono ?_); rintro e w' ⟨rfl, ⟨nd, rfl⟩⟩))
    go_meet
    case rel => exact ⟨_, (!t367), (by first | rfl | (simp; done) | (simp [*]; done)), H', ⟨by first | omega | exact Nat.le_refl _⟩, ⟨by (with_reducible repeat (first | apply Kd.R_alloc | apply Kd.R_drewN | apply Kd.R_drew)); exact HO366.out⟩, ⟨by repeat (first | (with_reducible first | exact HB.out | apply below_alloc | apply pw_below_drewN | apply below_drew1) | exact HB.out)⟩⟩
  ·
   rw [if_neg c6] at H
   have c6b0 : (t364 == (a0.size : Int)) = false := beq_eq_false_iff_ne.mpr c6
   have c6b1 : (t364 != (a0.size : Int)) = true := bne_iff_ne.mpr c6
   (first | rw [c6b0] | (simp only [i64_w, i32_w]; rw [c6b0]) | skip)
   have H' := Aside0.mk H
   clear H
   go_wp2
   go_meet
   case rel => exact ⟨_, (true), (by first | rfl | (simp; done) | (simp [*]; done)), H', ⟨by first | omega | exact Nat.le_refl _⟩, ⟨by (with_reducible repeat (first | apply Kd.R_alloc | apply Kd.R_drewN | apply Kd.R_drew)); exact HO366.out⟩, ⟨by repeat (first | (with_reducible first | exact HB.out | apply below_alloc | apply pw_below_drewN | apply below_drew1) | exact HB.out)⟩⟩
 case rest =>
  clear HC4
  try clear c1
  try clear p2
  try clear c6
  try clear c6b0
  try clear c6b1
  try clear c7
  try clear c7b0
  obtain ⟨kq, x27_3, rfl, HA, HJ3, HO_6, HB⟩ := hcut
  cases kq with
  | zero => exact absurd HA.out (by simp [impl_LogAdd.j0])
  | succ kj3 =>
   have H := HA.out
   clear HA
   simp only [impl_LogAdd.j0] at H
   by_cases c9 : x27_3 = true
   ·
    subst c9
    have H1 : (some ((⟨#[]⟩ : ByteArray), false)) = some (r1, r2) := by rw [if_pos rfl] at H; exact H
    clear H
    have H := H1
    clear H1
    simp only [Option.some.injEq, Prod.mk.injEq] at H
    obtain ⟨rfl, rfl⟩ := H
    go_wp2
    go_ret2
    exact ⟨by first | rfl | (simp [errW_none, errW_some] <;> rfl) | (simp [*, errW_none, errW_some] <;> rfl), by repeat (first | (with_reducible first | exact HB.out | apply below_alloc | apply pw_below_drewN | apply below_drew1) | exact HB.out)⟩
   ·
    replace c9 := Bool.eq_false_iff.mpr c9
    subst c9
    have H1 : ((impl_logLine.f kj3 (t363.length : Int) a1).bind fun t368 => (if a0.size + t368.size ≤ 9223372036854775807 then (if ((a0 ++ t368).size : Int) > 9000 then (some ((⟨#[]⟩ : ByteArray), false)) else (some (a0 ++ t368, true))) else (none))) = some (r1, r2) := by rw [if_neg (show ¬ (false = true) by decide)] at H; exact H
    clear H
    have H := H1
    clear H1
    replace H := Option.bind_eq_some_iff.mp H
    obtain ⟨t368, A100, H⟩ := H
    replace H : (if a0.size + t368.size ≤ 9223372036854775807 then (if ((a0 ++ t368).size : Int) > 9000 then (some ((⟨#[]⟩ : ByteArray), false)) else (some (a0 ++ t368, true))) else (none)) = some (r1, r2) := H
    have A10 := Aside0.mk A100
    clear A100
    by_cases c11 : a0.size + t368.size ≤ 9223372036854775807
    ·
     rw [if_pos c11] at H
     have c11b0 := eq_true c11
     have c11b1 : decide (a0.size + t368.size ≤ 9223372036854775807) = true := decide_eq_true c11
     try have c11b2 : (9223372036854775807 < a0.size + t368.size) = False := eq_false (Nat.not_lt.2 c11)
     by_cases c12 : ((a0 ++ t368).size : Int) > 9000
     ·
      rw [if_pos c12] at H
      have c12b0 : decide (9000 < ((a0 ++ t368).size : Int)) = true := decide_eq_true c12
      have c12b1 : decide (9000 < (a0 ++ t368).size) = true := decide_eq_true (by omega)
      (try (have c12n0 := c12b0; simp only [ByteArray.size_append, ByteArray.size_extract, Nat.sub_zero, lit_size, List.size_toArray, List.length_cons, List.length_nil, Nat.reduceAdd, Nat.zero_add, Int.natCast_add, Int.natCast_one, Int.cast_ofNat_Int] at c12n0))
      (try (have c12n1 := c12b1; simp only [ByteArray.size_append, ByteArray.size_extract, Nat.sub_zero, lit_size, List.size_toArray, List.length_cons, List.length_nil, Nat.reduceAdd, Nat.zero_add, Int.natCast_add, Int.natCast_one, Int.cast_ofNat_Int] at c12n1))
      clear c12
      simp only [Option.some.injEq, Prod.mk.injEq] at H
      obtain ⟨rfl, rfl⟩ := H
      obtain ⟨Ao13, co13, eo13⟩ := Kd.R_slice HO_6.out
      subst eo13
      go_wp2_with (first | ((with_reducible refine gate_callee (f := 33) rfl ?_); refine goesL_ (some 32) rfl rfl Tryd.func33 (by kernel_rfl) rfl #[.int .i64 (t363.length : Int), .string a1] rfl (by (try simp only [List.map_toArray, List.map_cons, List.map_nil]); first | done | rfl | (simp only [List.length_drop, List.length_take]; rfl)) ?_; (with_reducible refine (impl_logLine.calls kj3 (t363.length : Int) a1 t368 _ ?side1 A10.out).mono ?_); (case side1 => exact Glob.on HG.out (by repeat (first | (with_reducible first | exact HB.out | apply below_alloc | apply pw_below_drewN | apply below_drew1) | exact HB.out))); rintro e w14 ⟨rfl, hb⟩; refine ⟨_, rfl, ?_⟩; have n0_ := Aside0.mk (Kd.R_below (by (with_reducible repeat (first | apply Kd.R_alloc | apply Kd.R_drewN | apply Kd.R_drew)); exact HO_6.out) hb); have n1_ := Aside0.mk (below_step (by repeat (first | (with_reducible first | exact HB.out | apply below_alloc | apply pw_below_drewN | apply below_drew1) | exact HB.out)) hb); clear HO_6; clear HB; have HO_6 := n0_; have HB := n1_; clear n0_ n1_; (try clear hb); (try clear hb2); (try clear hk); (try clear hi)))
      go_ret2
      exact ⟨by first | rfl | (simp [errW_none, errW_some] <;> rfl) | (simp [*, errW_none, errW_some] <;> rfl), by repeat (first | (with_reducible first | exact HB.out | apply below_alloc | apply pw_below_drewN | apply below_drew1) | exact HB.out)⟩
     ·
      rw [if_neg c12] at H
      have c12b0 : decide (9000 < ((a0 ++ t368).size : Int)) = false := decide_eq_false c12
      have c12b1 : decide (9000 < (a0 ++ t368).size) = false := decide_eq_false (by omega)
      (try (have c12n0 := c12b0; simp only [ByteArray.size_append, ByteArray.size_extract, Nat.sub_zero, lit_size, List.size_toArray, List.length_cons, List.length_nil, Nat.reduceAdd, Nat.zero_add, Int.natCast_add, Int.natCast_one, Int.cast_ofNat_Int] at c12n0))
      (try (have c12n1 := c12b1; simp only [ByteArray.size_append, ByteArray.size_extract, Nat.sub_zero, lit_size, List.size_toArray, List.length_cons, List.length_nil, Nat.reduceAdd, Nat.zero_add, Int.natCast_add, Int.natCast_one, Int.cast_ofNat_Int] at c12n1))
      clear c12
      simp only [Option.some.injEq, Prod.mk.injEq] at H
      obtain ⟨rfl, rfl⟩ := H
      obtain ⟨Ao15, co15, eo15⟩ := Kd.R_slice HO_6.out
      subst eo15
      go_wp2_with (first | ((with_reducible refine gate_callee (f := 33) rfl ?_); refine goesL_ (some 32) rfl rfl Tryd.func33 (by kernel_rfl) rfl #[.int .i64 (t363.length : Int), .string a1] rfl (by (try simp only [List.map_toArray, List.map_cons, List.map_nil]); first | done | rfl | (simp only [List.length_drop, List.length_take]; rfl)) ?_; (with_reducible refine (impl_logLine.calls kj3 (t363.length : Int) a1 t368 _ ?side1 A10.out).mono ?_); (case side1 => exact Glob.on HG.out (by repeat (first | (with_reducible first | exact HB.out | apply below_alloc | apply pw_below_drewN | apply below_drew1) | exact HB.out))); rintro e w16 ⟨rfl, hb⟩; refine ⟨_, rfl, ?_⟩; have n0_ := Aside0.mk (Kd.R_below (by (with_reducible repeat (first | apply Kd.R_alloc | apply Kd.R_drewN | apply Kd.R_drew)); exact HO_6.out) hb); have n1_ := Aside0.mk (below_step (by repeat (first | (with_reducible first | exact HB.out | apply below_alloc | apply pw_below_drewN | apply below_drew1) | exact HB.out)) hb); clear HO_6; clear HB; have HO_6 := n0_; have HB := n1_; clear n0_ n1_; (try clear hb); (try clear hb2); (try clear hk); (try clear hi)))
      go_ret2
      exact ⟨by first | rfl | (simp [errW_none, errW_some] <;> rfl) | (simp [*, errW_none, errW_some] <;> rfl), by repeat (first | (with_reducible first | exact HB.out | apply below_alloc | apply pw_below_drewN | apply below_drew1) | exact HB.out)⟩
    ·
     rw [if_neg c11] at H
     exact absurd H (by simp)

/-! ### spec_DrawLogAdd: function 27 -/
def spec_DrawLogAdd.l0 : Nat → ByteArray → Int → List Int → Int → Option (ByteArray × ByteArray)
 | 0, _, _, _, _ => none
 | k + 1, x5, x6, x372000, x372001 => if x6 < 17 then ((spec_l1Many.f k (⟨#[108]⟩ : ByteArray) 500).bind fun t374 => ((spec_LogAdd.f k x5 t374).bind fun bt375 => (spec_DrawLogAdd.l0 k bt375.1 (wrap64 (x6 + 1)) x372000 x372001))) else ((spec_l1Rd_pick.f k x372000 x372001 256).bind fun bt377 => ((spec_l1Rd_pick.f k x372000 bt377.2 140).bind fun bt379 => ((spec_l1Many.f k (⟨#[109]⟩ : ByteArray) (wrap64 (bt377.1 + bt379.1))).bind fun t381 => (some (x5, t381)))))
def spec_DrawLogAdd.f (k : Nat) (l0 : List Int) : Option (ByteArray × ByteArray) := (spec_l1Open.f l0).bind fun bt369 => ((spec_l1Rd_pick.f k bt369.1 bt369.2 16).bind fun bt372 => (if bt372.1 = 0 then (spec_DrawLogAdd.l0 k (⟨#[]⟩ : ByteArray) 0 bt369.1 bt372.2) else ((spec_l15AnyLog.f k bt369.1 bt372.2).bind fun bt382 => ((spec_l15Record.f k bt369.1 bt382.2).bind fun bt384 => (some (bt382.1, bt384.1))))))
theorem spec_DrawLogAdd.mono_l : ∀ k, (∀ y0 y1 y2 y3, LeO (spec_DrawLogAdd.l0 k y0 y1 y2 y3) (spec_DrawLogAdd.l0 (k + 1) y0 y1 y2 y3))
 | 0 => fun _ _ _ _ r h => by simp [spec_DrawLogAdd.l0] at h
 | k + 1 => by
  have ih0 := spec_DrawLogAdd.mono_l k
  ·
   intro y0 y1 y2 y3
   unfold spec_DrawLogAdd.l0
   repeat' first
   | (with_reducible exact ih0 _ _ _ _)
   | (with_reducible exact spec_LogAdd.mono _ _ _)
   | (with_reducible exact spec_l15AnyLog.mono _ _ _)
   | (with_reducible exact spec_l15Record.mono _ _ _)
   | (with_reducible exact spec_l1Many.mono _ _ _)
   | (with_reducible exact spec_l1Rd_pick.mono _ _ _ _)
   | (with_reducible exact LeO.refl _)
   | (with_reducible exact LeO.none _)
   | (with_reducible refine LeO.ite ?_ ?_)
   | (with_reducible refine LeO.bind ?_ (fun _ => ?_))
   | exact ih0 _ _ _ _
   | exact spec_LogAdd.mono _ _ _
   | exact spec_l15AnyLog.mono _ _ _
   | exact spec_l15Record.mono _ _ _
   | exact spec_l1Many.mono _ _ _
   | exact spec_l1Rd_pick.mono _ _ _ _
   | exact LeO.none _
   | refine LeO.ite ?_ ?_
   | refine LeO.bind ?_ (fun _ => ?_)
theorem spec_DrawLogAdd.mono : ∀ a0 k, LeO (spec_DrawLogAdd.f k a0) (spec_DrawLogAdd.f (k + 1) a0) := by
 intro a0 k
 have ih0 := spec_DrawLogAdd.mono_l k
 unfold spec_DrawLogAdd.f
 repeat' first
   | (with_reducible exact ih0 _ _ _ _)
   | (with_reducible exact spec_LogAdd.mono _ _ _)
   | (with_reducible exact spec_l15AnyLog.mono _ _ _)
   | (with_reducible exact spec_l15Record.mono _ _ _)
   | (with_reducible exact spec_l1Many.mono _ _ _)
   | (with_reducible exact spec_l1Rd_pick.mono _ _ _ _)
   | (with_reducible exact LeO.refl _)
   | (with_reducible exact LeO.none _)
   | (with_reducible refine LeO.ite ?_ ?_)
   | (with_reducible refine LeO.bind ?_ (fun _ => ?_))
   | exact ih0 _ _ _ _
   | exact spec_LogAdd.mono _ _ _
   | exact spec_l15AnyLog.mono _ _ _
   | exact spec_l15Record.mono _ _ _
   | exact spec_l1Many.mono _ _ _
   | exact spec_l1Rd_pick.mono _ _ _ _
   | exact LeO.none _
   | refine LeO.ite ?_ ?_
   | refine LeO.bind ?_ (fun _ => ?_)
set_option maxHeartbeats 8000000 in
set_option maxRecDepth 100000 in
theorem spec_DrawLogAdd.calls (k : Nat) (A0 : Option Addr) (c0 : Nat) (l0 : List Int) (r1 : ByteArray) (r2 : ByteArray) (w : World) (hr0 : Kd.C (Kd.int .u8) w A0 l0.length l0) (hc0 : l0.length ≤ c0) (h : spec_DrawLogAdd.f k l0 = some (r1, r2)) :
  Calls Tryd.prog 27 #[.slice A0 l0.length c0] w fun e w' => e = .returned (.tuple #[.string r1, .string r2]) ∧ Below w.heap.size w w' := by
 have HR0 := Aside0.mk hr0
 have HC0 := Aside0.mk hc0
 clear hr0 hc0
 have HB := Aside0.mk (Below.refl w.heap.size w)
 have H : ((spec_l1Open.f l0).bind fun bt369 => ((spec_l1Rd_pick.f k bt369.1 bt369.2 16).bind fun bt372 => (if bt372.1 = 0 then (spec_DrawLogAdd.l0 k (⟨#[]⟩ : ByteArray) 0 bt369.1 bt372.2) else ((spec_l15AnyLog.f k bt369.1 bt372.2).bind fun bt382 => ((spec_l15Record.f k bt369.1 bt382.2).bind fun bt384 => (some (bt382.1, bt384.1))))))) = some (r1, r2) := h
 clear h
 replace H := Option.bind_eq_some_iff.mp H
 obtain ⟨⟨t369, t370⟩, A20, H⟩ := H
 replace H : ((spec_l1Rd_pick.f k t369 t370 16).bind fun bt372 => (if bt372.1 = 0 then (spec_DrawLogAdd.l0 k (⟨#[]⟩ : ByteArray) 0 t369 bt372.2) else ((spec_l15AnyLog.f k t369 bt372.2).bind fun bt382 => ((spec_l15Record.f k t369 bt382.2).bind fun bt384 => (some (bt382.1, bt384.1)))))) = some (r1, r2) := H
 have A2 := Aside0.mk A20
 clear A20
 replace H := Option.bind_eq_some_iff.mp H
 obtain ⟨⟨t372, t373⟩, A30, H⟩ := H
 replace H : (if t372 = 0 then (spec_DrawLogAdd.l0 k (⟨#[]⟩ : ByteArray) 0 t369 t373) else ((spec_l15AnyLog.f k t369 t373).bind fun bt382 => ((spec_l15Record.f k t369 bt382.2).bind fun bt384 => (some (bt382.1, bt384.1))))) = some (r1, r2) := H
 have A3 := Aside0.mk A30
 clear A30
 by_cases c4 : t372 = 0
 ·
  rw [if_pos c4] at H
  have c4b0 : (t372 == 0) = true := beq_iff_eq.mpr c4
  have c4b1 : (t372 != 0) = false := bne_eq_false_iff_eq.mpr c4
  clear c4
  have H' := Aside0.mk H
  clear H
  go_enter Tryd.func27, Tryd.ntmps27
  go_wp2_with (first | ((with_reducible refine gate_callee (f := 40) rfl ?_); refine goesL_ (some 8) rfl rfl Tryd.func40 (by kernel_rfl) rfl #[.slice A0 l0.length c0] rfl (by (try simp only [List.map_toArray, List.map_cons, List.map_nil]); first | done | rfl | (simp only [List.length_drop, List.length_take]; rfl)) ?_; (with_reducible refine (spec_l1Open.calls _ _ l0 t369 t370 w _ ?side1 ?side2 ?side3 A2.out).mono ?_); (case side1 => repeat (first | (with_reducible first | exact HB.out | apply below_alloc | apply pw_below_drewN | apply below_drew1) | exact HB.out)); (case side2 => exact HR0.out); (case side3 => exact HC0.out); rintro e w5 ⟨g371, rfl, hi, hb, hb2⟩; refine ⟨_, rfl, ?_⟩; have n0_ := Aside0.mk (hb); have n1_ := Aside0.mk (hi); clear HB; have HB := n0_; have HI371 := n1_; clear n0_ n1_; (try clear hb); (try clear hb2); (try clear hk); (try clear hi)) | ((with_reducible refine gate_callee (f := 41) rfl ?_); refine goesL_ (some 10) rfl rfl Tryd.func41 (by kernel_rfl) rfl #[.pointer (some ⟨g371, 0, none⟩), .int .i64 16] rfl (by (try simp only [List.map_toArray, List.map_cons, List.map_nil]); first | done | rfl | (simp only [List.length_drop, List.length_take]; rfl)) ?_; (with_reducible refine (spec_l1Rd_pick.calls k g371 t369 t370 16 t372 t373 w _ ?side1 ?side2 A3.out).mono ?_); (case side1 => repeat (first | (with_reducible first | exact HI371.out | apply IsS64.alloc | apply IsS64.drewN | apply IsS64.drew | apply IsS64.set_1) | exact HI371.out)); (case side2 => repeat (first | (with_reducible first | exact HB.out | apply below_alloc | apply pw_below_drewN | apply below_drew1 | refine below_set ?_ (IsS64.ge HI371.out)) | exact HB.out)); rintro e w6 ⟨rfl, hi, hb, hk⟩; refine ⟨_, rfl, ?_⟩; have n0_ := Aside0.mk (hb); have n1_ := Aside0.mk (hi); clear HB; clear HI371; have HB := n0_; have HI371 := n1_; clear n0_ n1_; (try clear hb); (try clear hb2); (try clear hk); (try clear hi)))
  go_loopg [5, 6] k (fun kq v5 v6 w' => ∃ (x5_1 : ByteArray) (x6_1 : Int), v5 = .string x5_1 ∧ v6 = .int .i64 x6_1 ∧ Aside0 (spec_DrawLogAdd.l0 kq x5_1 x6_1 t369 t373 = some (r1, r2)) ∧ Aside0 (kq ≤ k) ∧ Aside0 (IsS64 w w' g371 t369 t373) ∧ Aside0 (Below w.heap.size w w'))
  case atStart => exact ⟨((⟨#[]⟩ : ByteArray)), (0), (by first | rfl | (simp; done) | (simp [*]; done)), (by first | rfl | (simp; done) | (simp [*]; done)), H', ⟨Nat.le_refl _⟩, ⟨by repeat (first | (with_reducible first | exact HI371.out | apply IsS64.alloc | apply IsS64.drewN | apply IsS64.drew | apply IsS64.set_1) | exact HI371.out)⟩, ⟨by repeat (first | (with_reducible first | exact HB.out | apply below_alloc | apply pw_below_drewN | apply below_drew1 | refine below_set ?_ (IsS64.ge HI371.out)) | exact HB.out)⟩⟩
  case round =>
   clear H'
   try clear c2
   try clear p2
   try clear c4
   try clear c4b0
   try clear c4b1
   obtain ⟨x5_1, x6_1, rfl, rfl, HA, HK1, HI371, HB⟩ := hrel
   cases gk with
   | zero => exact absurd HA.out (by simp [spec_DrawLogAdd.l0])
   | succ k1 =>
    have H := HA.out
    clear HA
    simp only [spec_DrawLogAdd.l0] at H
    by_cases c7 : x6_1 < 17
    ·
     rw [if_pos c7] at H
     have c7b0 : decide (x6_1 < 17) = true := decide_eq_true c7
     clear c7
     replace H := Option.bind_eq_some_iff.mp H
     obtain ⟨t374, A80, H⟩ := H
     replace H : ((spec_LogAdd.f k1 x5_1 t374).bind fun bt375 => (spec_DrawLogAdd.l0 k1 bt375.1 (wrap64 (x6_1 + 1)) t369 t373)) = some (r1, r2) := H
     have A8 := Aside0.mk A80
     clear A80
     replace H := Option.bind_eq_some_iff.mp H
     obtain ⟨⟨t375, t376⟩, A90, H⟩ := H
     replace H : (spec_DrawLogAdd.l0 k1 t375 (wrap64 (x6_1 + 1)) t369 t373) = some (r1, r2) := H
     have A9 := Aside0.mk A90
     clear A90
     have H' := Aside0.mk H
     clear H
     go_wp2_with (first | ((with_reducible refine gate_callee (f := 42) rfl ?_); refine goesL_ (some 18) rfl rfl Tryd.func42 (by kernel_rfl) rfl #[.string (⟨#[108]⟩ : ByteArray), .int .i64 500] rfl (by (try simp only [List.map_toArray, List.map_cons, List.map_nil]); first | done | rfl | (simp only [List.length_drop, List.length_take]; rfl)) ?_; (with_reducible refine (spec_l1Many.calls k1 (⟨#[108]⟩ : ByteArray) 500 t374 _ A8.out).mono ?_); rintro e w' ⟨rfl, ⟨nd, rfl⟩⟩; refine ⟨_, rfl, ?_⟩) | ((with_reducible refine gate_callee (f := 15) rfl ?_); refine goesL_ (some 19) rfl rfl Tryd.func15 (by kernel_rfl) rfl #[.string x5_1, .string t374] rfl (by (try simp only [List.map_toArray, List.map_cons, List.map_nil]); first | done | rfl | (simp only [List.length_drop, List.length_take]; rfl)) ?_; (with_reducible refine (spec_LogAdd.calls k1 x5_1 t374 t375 t376 _ A9.out).mono ?_); rintro e w10 ⟨rfl, hb⟩; refine ⟨_, rfl, ?_⟩; have n0_ := Aside0.mk (IsS64.below (by repeat (first | (with_reducible first | exact HI371.out | apply IsS64.alloc | apply IsS64.drewN | apply IsS64.drew | apply IsS64.set_1) | exact HI371.out)) hb); have n1_ := Aside0.mk (below_step (by repeat (first | (with_reducible first | exact HB.out | apply below_alloc | apply pw_below_drewN | apply below_drew1 | refine below_set ?_ (IsS64.ge HI371.out)) | exact HB.out)) hb); clear HI371; clear HB; have HI371 := n0_; have HB := n1_; clear n0_ n1_; (try clear hb); (try clear hb2); (try clear hk); (try clear hi)))
     go_roundg k1
     case measure => have := HK1.out; omega
     case rel => exact ⟨(t375), (wrap64 (x6_1 + 1)), (by first | rfl | (simp; done) | (simp [*]; done)), (by first | rfl | (simp; done) | (simp [*]; done)), H', ⟨by have := HK1.out; omega⟩, ⟨by repeat (first | (with_reducible first | exact HI371.out | apply IsS64.alloc | apply IsS64.drewN | apply IsS64.drew | apply IsS64.set_1) | exact HI371.out)⟩, ⟨by repeat (first | (with_reducible first | exact HB.out | apply below_alloc | apply pw_below_drewN | apply below_drew1 | refine below_set ?_ (IsS64.ge HI371.out)) | exact HB.out)⟩⟩
    ·
     rw [if_neg c7] at H
     have c7b0 : decide (x6_1 < 17) = false := decide_eq_false c7
     clear c7
     replace H := Option.bind_eq_some_iff.mp H
     obtain ⟨⟨t377, t378⟩, A110, H⟩ := H
     replace H : ((spec_l1Rd_pick.f k1 t369 t378 140).bind fun bt379 => ((spec_l1Many.f k1 (⟨#[109]⟩ : ByteArray) (wrap64 (t377 + bt379.1))).bind fun t381 => (some (x5_1, t381)))) = some (r1, r2) := H
     have A11 := Aside0.mk A110
     clear A110
     replace H := Option.bind_eq_some_iff.mp H
     obtain ⟨⟨t379, t380⟩, A120, H⟩ := H
     replace H : ((spec_l1Many.f k1 (⟨#[109]⟩ : ByteArray) (wrap64 (t377 + t379))).bind fun t381 => (some (x5_1, t381))) = some (r1, r2) := H
     have A12 := Aside0.mk A120
     clear A120
     replace H := Option.bind_eq_some_iff.mp H
     obtain ⟨t381, A130, H⟩ := H
     replace H : (some (x5_1, t381)) = some (r1, r2) := H
     have A13 := Aside0.mk A130
     clear A130
     simp only [Option.some.injEq, Prod.mk.injEq] at H
     obtain ⟨rfl, rfl⟩ := H
     go_wp2_with (first | ((with_reducible refine gate_callee (f := 41) rfl ?_); refine goesL_ (some 24) rfl rfl Tryd.func41 (by kernel_rfl) rfl #[.pointer (some ⟨g371, 0, none⟩), .int .i64 256] rfl (by (try simp only [List.map_toArray, List.map_cons, List.map_nil]); first | done | rfl | (simp only [List.length_drop, List.length_take]; rfl)) ?_; (with_reducible refine (spec_l1Rd_pick.calls k1 g371 t369 t373 256 t377 t378 w _ ?side1 ?side2 A11.out).mono ?_); (case side1 => repeat (first | (with_reducible first | exact HI371.out | apply IsS64.alloc | apply IsS64.drewN | apply IsS64.drew | apply IsS64.set_1) | exact HI371.out)); (case side2 => repeat (first | (with_reducible first | exact HB.out | apply below_alloc | apply pw_below_drewN | apply below_drew1 | refine below_set ?_ (IsS64.ge HI371.out)) | exact HB.out)); rintro e w14 ⟨rfl, hi, hb, hk⟩; refine ⟨_, rfl, ?_⟩; have n0_ := Aside0.mk (hb); have n1_ := Aside0.mk (hi); clear HB; clear HI371; have HB := n0_; have HI371 := n1_; clear n0_ n1_; (try clear hb); (try clear hb2); (try clear hk); (try clear hi)) | ((with_reducible refine gate_callee (f := 41) rfl ?_); refine goesL_ (some 26) rfl rfl Tryd.func41 (by kernel_rfl) rfl #[.pointer (some ⟨g371, 0, none⟩), .int .i64 140] rfl (by (try simp only [List.map_toArray, List.map_cons, List.map_nil]); first | done | rfl | (simp only [List.length_drop, List.length_take]; rfl)) ?_; (with_reducible refine (spec_l1Rd_pick.calls k1 g371 t369 t378 140 t379 t380 w _ ?side1 ?side2 A12.out).mono ?_); (case side1 => repeat (first | (with_reducible first | exact HI371.out | apply IsS64.alloc | apply IsS64.drewN | apply IsS64.drew | apply IsS64.set_1) | exact HI371.out)); (case side2 => repeat (first | (with_reducible first | exact HB.out | apply below_alloc | apply pw_below_drewN | apply below_drew1 | refine below_set ?_ (IsS64.ge HI371.out)) | exact HB.out)); rintro e w15 ⟨rfl, hi, hb, hk⟩; refine ⟨_, rfl, ?_⟩; have n0_ := Aside0.mk (hb); have n1_ := Aside0.mk (hi); clear HB; clear HI371; have HB := n0_; have HI371 := n1_; clear n0_ n1_; (try clear hb); (try clear hb2); (try clear hk); (try clear hi)) | ((with_reducible refine gate_callee (f := 42) rfl ?_); refine goesL_ (some 28) rfl rfl Tryd.func42 (by kernel_rfl) rfl #[.string (⟨#[109]⟩ : ByteArray), .int .i64 (wrap64 (t377 + t379))] rfl (by (try simp only [List.map_toArray, List.map_cons, List.map_nil]); first | done | rfl | (simp only [List.length_drop, List.length_take]; rfl)) ?_; (with_reducible refine (spec_l1Many.calls k1 (⟨#[109]⟩ : ByteArray) (wrap64 (t377 + t379)) t381 _ A13.out).mono ?_); rintro e w' ⟨rfl, ⟨nd, rfl⟩⟩; refine ⟨_, rfl, ?_⟩))
     go_ret2
     exact ⟨by first | rfl | (simp [errW_none, errW_some] <;> rfl) | (simp [*, errW_none, errW_some] <;> rfl), by repeat (first | (with_reducible first | exact HB.out | apply below_alloc | apply pw_below_drewN | apply below_drew1 | refine below_set ?_ (IsS64.ge HI371.out)) | exact HB.out)⟩
 ·
  rw [if_neg c4] at H
  have c4b0 : (t372 == 0) = false := beq_eq_false_iff_ne.mpr c4
  have c4b1 : (t372 != 0) = true := bne_iff_ne.mpr c4
  replace H := Option.bind_eq_some_iff.mp H
  obtain ⟨⟨t382, t383⟩, A160, H⟩ := H
  replace H : ((spec_l15Record.f k t369 t383).bind fun bt384 => (some (t382, bt384.1))) = some (r1, r2) := H
  have A16 := Aside0.mk A160
  clear A160
  replace H := Option.bind_eq_some_iff.mp H
  obtain ⟨⟨t384, t385⟩, A170, H⟩ := H
  replace H : (some (t382, t384)) = some (r1, r2) := H
  have A17 := Aside0.mk A170
  clear A170
  simp only [Option.some.injEq, Prod.mk.injEq] at H
  obtain ⟨rfl, rfl⟩ := H
  go_enter Tryd.func27, Tryd.ntmps27
  go_wp2_with (first | ((with_reducible refine gate_callee (f := 40) rfl ?_); refine goesL_ (some 8) rfl rfl Tryd.func40 (by kernel_rfl) rfl #[.slice A0 l0.length c0] rfl (by (try simp only [List.map_toArray, List.map_cons, List.map_nil]); first | done | rfl | (simp only [List.length_drop, List.length_take]; rfl)) ?_; (with_reducible refine (spec_l1Open.calls _ _ l0 t369 t370 w _ ?side1 ?side2 ?side3 A2.out).mono ?_); (case side1 => repeat (first | (with_reducible first | exact HB.out | apply below_alloc | apply pw_below_drewN | apply below_drew1) | exact HB.out)); (case side2 => exact HR0.out); (case side3 => exact HC0.out); rintro e w18 ⟨g371, rfl, hi, hb, hb2⟩; refine ⟨_, rfl, ?_⟩; have n0_ := Aside0.mk (hb); have n1_ := Aside0.mk (hi); clear HB; have HB := n0_; have HI371 := n1_; clear n0_ n1_; (try clear hb); (try clear hb2); (try clear hk); (try clear hi)) | ((with_reducible refine gate_callee (f := 41) rfl ?_); refine goesL_ (some 10) rfl rfl Tryd.func41 (by kernel_rfl) rfl #[.pointer (some ⟨g371, 0, none⟩), .int .i64 16] rfl (by (try simp only [List.map_toArray, List.map_cons, List.map_nil]); first | done | rfl | (simp only [List.length_drop, List.length_take]; rfl)) ?_; (with_reducible refine (spec_l1Rd_pick.calls k g371 t369 t370 16 t372 t373 w _ ?side1 ?side2 A3.out).mono ?_); (case side1 => repeat (first | (with_reducible first | exact HI371.out | apply IsS64.alloc | apply IsS64.drewN | apply IsS64.drew | apply IsS64.set_1) | exact HI371.out)); (case side2 => repeat (first | (with_reducible first | exact HB.out | apply below_alloc | apply pw_below_drewN | apply below_drew1 | refine below_set ?_ (IsS64.ge HI371.out)) | exact HB.out)); rintro e w19 ⟨rfl, hi, hb, hk⟩; refine ⟨_, rfl, ?_⟩; have n0_ := Aside0.mk (hb); have n1_ := Aside0.mk (hi); clear HB; clear HI371; have HB := n0_; have HI371 := n1_; clear n0_ n1_; (try clear hb); (try clear hb2); (try clear hk); (try clear hi)) | ((with_reducible refine gate_callee (f := 39) rfl ?_); refine goesL_ (some 30) rfl rfl Tryd.func39 (by kernel_rfl) rfl #[.pointer (some ⟨g371, 0, none⟩)] rfl (by (try simp only [List.map_toArray, List.map_cons, List.map_nil]); first | done | rfl | (simp only [List.length_drop, List.length_take]; rfl)) ?_; (with_reducible refine (spec_l15AnyLog.calls k g371 t369 t373 t382 t383 w _ ?side1 ?side2 A16.out).mono ?_); (case side1 => repeat (first | (with_reducible first | exact HI371.out | apply IsS64.alloc | apply IsS64.drewN | apply IsS64.drew | apply IsS64.set_1) | exact HI371.out)); (case side2 => repeat (first | (with_reducible first | exact HB.out | apply below_alloc | apply pw_below_drewN | apply below_drew1 | refine below_set ?_ (IsS64.ge HI371.out)) | exact HB.out)); rintro e w20 ⟨rfl, hi, hb, hk⟩; refine ⟨_, rfl, ?_⟩; have n0_ := Aside0.mk (hb); have n1_ := Aside0.mk (hi); clear HB; clear HI371; have HB := n0_; have HI371 := n1_; clear n0_ n1_; (try clear hb); (try clear hb2); (try clear hk); (try clear hi)) | ((with_reducible refine gate_callee (f := 43) rfl ?_); refine goesL_ (some 32) rfl rfl Tryd.func43 (by kernel_rfl) rfl #[.pointer (some ⟨g371, 0, none⟩)] rfl (by (try simp only [List.map_toArray, List.map_cons, List.map_nil]); first | done | rfl | (simp only [List.length_drop, List.length_take]; rfl)) ?_; (with_reducible refine (spec_l15Record.calls k g371 t369 t383 t384 t385 w _ ?side1 ?side2 A17.out).mono ?_); (case side1 => repeat (first | (with_reducible first | exact HI371.out | apply IsS64.alloc | apply IsS64.drewN | apply IsS64.drew | apply IsS64.set_1) | exact HI371.out)); (case side2 => repeat (first | (with_reducible first | exact HB.out | apply below_alloc | apply pw_below_drewN | apply below_drew1 | refine below_set ?_ (IsS64.ge HI371.out)) | exact HB.out)); rintro e w21 ⟨rfl, hi, hb, hk⟩; refine ⟨_, rfl, ?_⟩; have n0_ := Aside0.mk (hb); have n1_ := Aside0.mk (hi); clear HB; clear HI371; have HB := n0_; have HI371 := n1_; clear n0_ n1_; (try clear hb); (try clear hb2); (try clear hk); (try clear hi)))
  go_ret2
  exact ⟨by first | rfl | (simp [errW_none, errW_some] <;> rfl) | (simp [*, errW_none, errW_some] <;> rfl), by repeat (first | (with_reducible first | exact HB.out | apply below_alloc | apply pw_below_drewN | apply below_drew1 | refine below_set ?_ (IsS64.ge HI371.out)) | exact HB.out)⟩

/-! ### laws_FnLogAdd: function 9 -/
mutual
def laws_FnLogAdd.j0 : Nat → ByteArray → ByteArray → ByteArray → Bool → ByteArray → Bool → Bool → Option (Bool)
 | 0, _, _, _, _, _, _, _ => none
 | k + 1, x3, x4, x5, x6, x7, x8, x44 => if x44 = true then (if x5.toList = x7.toList then (some (x6 == x8)) else (some false)) else ((impl_LogRead.f k x3).bind fun bt392 => ((impl_LogRead.f k x5).bind fun bt396 => (if bt396.2 = (x5.size : Int) then (if (bt396.1.length : Int) = (wrap64 ((bt392.1.length : Int) + 1)) then (if 0 ≤ (bt392.1.length : Int) then (if (bt392.1.length : Int) ≤ (bt396.1.length : Int) then ((laws_whWords.f k (bt396.1.take ((bt392.1.length : Int) : Int).toNat) bt392.1).bind fun t404 => (if t404 = true then (if (bt392.1.length : Int) < (bt396.1.length : Int) then (if (rdOf ByteArray.empty bt396.1 (bt392.1.length : Int)).toList = x4.toList then ((impl_LogOk.f k x5).bind fun t406 => (if t406 = true then (if 0 ≤ (x3.size : Int) then (if (x3.size : Int) ≤ (x5.size : Int) then (laws_FnLogAdd.j1 k ((x5.extract 0 ((x3.size : Int) : Int).toNat).toList == x3.toList)) else (none)) else (none)) else (laws_FnLogAdd.j1 k false))) else (laws_FnLogAdd.j1 k false)) else (none)) else (laws_FnLogAdd.j1 k false))) else (none)) else (none)) else (laws_FnLogAdd.j1 k false)) else (laws_FnLogAdd.j1 k false))))
def laws_FnLogAdd.j1 : Nat → Bool → Option (Bool)
 | 0, _ => none
 | k + 1, x2 => some x2
end
def laws_FnLogAdd.f (k : Nat) (l0 : List Int) : Option (Bool) := if (l0.length : Int) > 1048576 then (some true) else ((spec_DrawLogAdd.f k l0).bind fun bt386 => ((impl_LogAdd.f k bt386.1 bt386.2).bind fun bt388 => ((spec_LogAdd.f k bt386.1 bt386.2).bind fun bt390 => (if bt388.1.toList = bt390.1.toList then (if (bt388.2 != bt390.2) = true then (laws_FnLogAdd.j0 k bt386.1 bt386.2 bt388.1 bt388.2 bt390.1 bt390.2 true) else (laws_FnLogAdd.j0 k bt386.1 bt386.2 bt388.1 bt388.2 bt390.1 bt390.2 (!bt388.2))) else (laws_FnLogAdd.j0 k bt386.1 bt386.2 bt388.1 bt388.2 bt390.1 bt390.2 true)))))
theorem laws_FnLogAdd.mono_l : ∀ k, (∀ y0 y1 y2 y3 y4 y5 y6, LeO (laws_FnLogAdd.j0 k y0 y1 y2 y3 y4 y5 y6) (laws_FnLogAdd.j0 (k + 1) y0 y1 y2 y3 y4 y5 y6)) ∧ (∀ y0, LeO (laws_FnLogAdd.j1 k y0) (laws_FnLogAdd.j1 (k + 1) y0))
 | 0 => ⟨fun _ _ _ _ _ _ _ r h => by simp [laws_FnLogAdd.j0] at h, fun _ r h => by simp [laws_FnLogAdd.j1] at h⟩
 | k + 1 => by
  obtain ⟨ih0, ih1⟩ := laws_FnLogAdd.mono_l k
  refine ⟨?_, ?_⟩
  ·
   intro y0 y1 y2 y3 y4 y5 y6
   unfold laws_FnLogAdd.j0
   repeat' first
   | (with_reducible exact ih0 _ _ _ _ _ _ _)
   | (with_reducible exact ih1 _)
   | (with_reducible exact impl_LogAdd.mono _ _ _)
   | (with_reducible exact impl_LogOk.mono _ _)
   | (with_reducible exact impl_LogRead.mono _ _)
   | (with_reducible exact laws_whWords.mono _ _ _)
   | (with_reducible exact spec_DrawLogAdd.mono _ _)
   | (with_reducible exact spec_LogAdd.mono _ _ _)
   | (with_reducible exact LeO.refl _)
   | (with_reducible exact LeO.none _)
   | (with_reducible refine LeO.ite ?_ ?_)
   | (with_reducible refine LeO.bind ?_ (fun _ => ?_))
   | exact ih0 _ _ _ _ _ _ _
   | exact ih1 _
   | exact impl_LogAdd.mono _ _ _
   | exact impl_LogOk.mono _ _
   | exact impl_LogRead.mono _ _
   | exact laws_whWords.mono _ _ _
   | exact spec_DrawLogAdd.mono _ _
   | exact spec_LogAdd.mono _ _ _
   | exact LeO.none _
   | refine LeO.ite ?_ ?_
   | refine LeO.bind ?_ (fun _ => ?_)
  ·
   intro y0
   unfold laws_FnLogAdd.j1
   repeat' first
   | (with_reducible exact ih0 _ _ _ _ _ _ _)
   | (with_reducible exact ih1 _)
   | (with_reducible exact impl_LogAdd.mono _ _ _)
   | (with_reducible exact impl_LogOk.mono _ _)
   | (with_reducible exact impl_LogRead.mono _ _)
   | (with_reducible exact laws_whWords.mono _ _ _)
   | (with_reducible exact spec_DrawLogAdd.mono _ _)
   | (with_reducible exact spec_LogAdd.mono _ _ _)
   | (with_reducible exact LeO.refl _)
   | (with_reducible exact LeO.none _)
   | (with_reducible refine LeO.ite ?_ ?_)
   | (with_reducible refine LeO.bind ?_ (fun _ => ?_))
   | exact ih0 _ _ _ _ _ _ _
   | exact ih1 _
   | exact impl_LogAdd.mono _ _ _
   | exact impl_LogOk.mono _ _
   | exact impl_LogRead.mono _ _
   | exact laws_whWords.mono _ _ _
   | exact spec_DrawLogAdd.mono _ _
   | exact spec_LogAdd.mono _ _ _
   | exact LeO.none _
   | refine LeO.ite ?_ ?_
   | refine LeO.bind ?_ (fun _ => ?_)
theorem laws_FnLogAdd.mono : ∀ a0 k, LeO (laws_FnLogAdd.f k a0) (laws_FnLogAdd.f (k + 1) a0) := by
 intro a0 k
 obtain ⟨ih0, ih1⟩ := laws_FnLogAdd.mono_l k
 unfold laws_FnLogAdd.f
 repeat' first
   | (with_reducible exact ih0 _ _ _ _ _ _ _)
   | (with_reducible exact ih1 _)
   | (with_reducible exact impl_LogAdd.mono _ _ _)
   | (with_reducible exact impl_LogOk.mono _ _)
   | (with_reducible exact impl_LogRead.mono _ _)
   | (with_reducible exact laws_whWords.mono _ _ _)
   | (with_reducible exact spec_DrawLogAdd.mono _ _)
   | (with_reducible exact spec_LogAdd.mono _ _ _)
   | (with_reducible exact LeO.refl _)
   | (with_reducible exact LeO.none _)
   | (with_reducible refine LeO.ite ?_ ?_)
   | (with_reducible refine LeO.bind ?_ (fun _ => ?_))
   | exact ih0 _ _ _ _ _ _ _
   | exact ih1 _
   | exact impl_LogAdd.mono _ _ _
   | exact impl_LogOk.mono _ _
   | exact impl_LogRead.mono _ _
   | exact laws_whWords.mono _ _ _
   | exact spec_DrawLogAdd.mono _ _
   | exact spec_LogAdd.mono _ _ _
   | exact LeO.none _
   | refine LeO.ite ?_ ?_
   | refine LeO.bind ?_ (fun _ => ?_)
set_option maxHeartbeats 8000000 in
set_option maxRecDepth 100000 in
theorem laws_FnLogAdd.calls (k : Nat) (A0 : Option Addr) (c0 : Nat) (l0 : List Int) (r : Bool) (w : World) (hr0 : Kd.C (Kd.int .u8) w A0 l0.length l0) (hc0 : l0.length ≤ c0) (hG : Glob w) (h : laws_FnLogAdd.f k l0 = some r) :
  Calls Tryd.prog 9 #[.slice A0 l0.length c0] w fun e w' => e = .returned (.bool r) ∧ Below w.heap.size w w' := by
 have HG := Aside0.mk hG
 clear hG
 have HR0 := Aside0.mk hr0
 have HC0 := Aside0.mk hc0
 clear hr0 hc0
 have HB := Aside0.mk (Below.refl w.heap.size w)
 have H : (if (l0.length : Int) > 1048576 then (some true) else ((spec_DrawLogAdd.f k l0).bind fun bt386 => ((impl_LogAdd.f k bt386.1 bt386.2).bind fun bt388 => ((spec_LogAdd.f k bt386.1 bt386.2).bind fun bt390 => (if bt388.1.toList = bt390.1.toList then (if (bt388.2 != bt390.2) = true then (laws_FnLogAdd.j0 k bt386.1 bt386.2 bt388.1 bt388.2 bt390.1 bt390.2 true) else (laws_FnLogAdd.j0 k bt386.1 bt386.2 bt388.1 bt388.2 bt390.1 bt390.2 (!bt388.2))) else (laws_FnLogAdd.j0 k bt386.1 bt386.2 bt388.1 bt388.2 bt390.1 bt390.2 true)))))) = some r := h
 clear h
 by_cases c2 : (l0.length : Int) > 1048576
 ·
  rw [if_pos c2] at H
  have c2b0 : decide (1048576 < (l0.length : Int)) = true := decide_eq_true c2
  have c2b1 : decide (1048576 < l0.length) = true := decide_eq_true (by omega)
  clear c2
  obtain rfl := Option.some.inj H
  go_enter Tryd.func9, Tryd.ntmps9
  go_wp2
  go_ret
  exact ⟨by first | rfl | (simp [errW_none, errW_some] <;> rfl) | (simp [*, errW_none, errW_some] <;> rfl), by repeat (first | (with_reducible first | exact HB.out | apply below_alloc | apply pw_below_drewN | apply below_drew1) | exact HB.out)⟩
 ·
  rw [if_neg c2] at H
  have c2b0 : decide (1048576 < (l0.length : Int)) = false := decide_eq_false c2
  have c2b1 : decide (1048576 < l0.length) = false := decide_eq_false (by omega)
  clear c2
  replace H := Option.bind_eq_some_iff.mp H
  obtain ⟨⟨t386, t387⟩, A30, H⟩ := H
  replace H : ((impl_LogAdd.f k t386 t387).bind fun bt388 => ((spec_LogAdd.f k t386 t387).bind fun bt390 => (if bt388.1.toList = bt390.1.toList then (if (bt388.2 != bt390.2) = true then (laws_FnLogAdd.j0 k t386 t387 bt388.1 bt388.2 bt390.1 bt390.2 true) else (laws_FnLogAdd.j0 k t386 t387 bt388.1 bt388.2 bt390.1 bt390.2 (!bt388.2))) else (laws_FnLogAdd.j0 k t386 t387 bt388.1 bt388.2 bt390.1 bt390.2 true)))) = some r := H
  have A3 := Aside0.mk A30
  clear A30
  replace H := Option.bind_eq_some_iff.mp H
  obtain ⟨⟨t388, t389⟩, A40, H⟩ := H
  replace H : ((spec_LogAdd.f k t386 t387).bind fun bt390 => (if t388.toList = bt390.1.toList then (if (t389 != bt390.2) = true then (laws_FnLogAdd.j0 k t386 t387 t388 t389 bt390.1 bt390.2 true) else (laws_FnLogAdd.j0 k t386 t387 t388 t389 bt390.1 bt390.2 (!t389))) else (laws_FnLogAdd.j0 k t386 t387 t388 t389 bt390.1 bt390.2 true))) = some r := H
  have A4 := Aside0.mk A40
  clear A40
  replace H := Option.bind_eq_some_iff.mp H
  obtain ⟨⟨t390, t391⟩, A50, H⟩ := H
  replace H : (if t388.toList = t390.toList then (if (t389 != t391) = true then (laws_FnLogAdd.j0 k t386 t387 t388 t389 t390 t391 true) else (laws_FnLogAdd.j0 k t386 t387 t388 t389 t390 t391 (!t389))) else (laws_FnLogAdd.j0 k t386 t387 t388 t389 t390 t391 true)) = some r := H
  have A5 := Aside0.mk A50
  clear A50
  have HC6 := Aside0.mk H
  clear H
  go_enter Tryd.func9, Tryd.ntmps9
  go_upto_region 6 with (first | ((with_reducible refine gate_callee (f := 27) rfl ?_); refine goesL_ (some 18) rfl rfl Tryd.func27 (by kernel_rfl) rfl #[.slice A0 l0.length c0] rfl (by (try simp only [List.map_toArray, List.map_cons, List.map_nil]); first | done | rfl | (simp only [List.length_drop, List.length_take]; rfl)) ?_; (with_reducible refine (spec_DrawLogAdd.calls k _ _ l0 t386 t387 _ ?side1 ?side2 A3.out).mono ?_); (case side1 => repeat (first | exact HR0.out | (with_reducible refine Kd.C_alloc ?_ _) | (with_reducible refine Kd.C_drewN ?_ _) | (with_reducible refine Kd.C_drew ?_))); (case side2 => exact HC0.out); rintro e w7 ⟨rfl, hb⟩; refine ⟨_, rfl, ?_⟩; have n0_ := Aside0.mk (below_step (by repeat (first | (with_reducible first | exact HB.out | apply below_alloc | apply pw_below_drewN | apply below_drew1) | exact HB.out)) hb); clear HB; have HB := n0_; clear n0_; (try clear hb); (try clear hb2); (try clear hk); (try clear hi)) | ((with_reducible refine gate_callee (f := 16) rfl ?_); refine goesL_ (some 24) rfl rfl Tryd.func16 (by kernel_rfl) rfl #[.string t386, .string t387] rfl (by (try simp only [List.map_toArray, List.map_cons, List.map_nil]); first | done | rfl | (simp only [List.length_drop, List.length_take]; rfl)) ?_; (with_reducible refine (impl_LogAdd.calls k t386 t387 t388 t389 _ ?side1 A4.out).mono ?_); (case side1 => exact Glob.on HG.out (by repeat (first | (with_reducible first | exact HB.out | apply below_alloc | apply pw_below_drewN | apply below_drew1) | exact HB.out))); rintro e w8 ⟨rfl, hb⟩; refine ⟨_, rfl, ?_⟩; have n0_ := Aside0.mk (below_step (by repeat (first | (with_reducible first | exact HB.out | apply below_alloc | apply pw_below_drewN | apply below_drew1) | exact HB.out)) hb); clear HB; have HB := n0_; clear n0_; (try clear hb); (try clear hb2); (try clear hk); (try clear hi)) | ((with_reducible refine gate_callee (f := 15) rfl ?_); refine goesL_ (some 30) rfl rfl Tryd.func15 (by kernel_rfl) rfl #[.string t386, .string t387] rfl (by (try simp only [List.map_toArray, List.map_cons, List.map_nil]); first | done | rfl | (simp only [List.length_drop, List.length_take]; rfl)) ?_; (with_reducible refine (spec_LogAdd.calls k t386 t387 t390 t391 _ A5.out).mono ?_); rintro e w9 ⟨rfl, hb⟩; refine ⟨_, rfl, ?_⟩; have n0_ := Aside0.mk (below_step (by repeat (first | (with_reducible first | exact HB.out | apply below_alloc | apply pw_below_drewN | apply below_drew1) | exact HB.out)) hb); clear HB; have HB := n0_; clear n0_; (try clear hb); (try clear hb2); (try clear hk); (try clear hi)))
  (try simp only [Act.put, List.setIfInBounds_toArray, List.set_cons_zero, List.set_cons_succ])
  go_cut [44] (fun v44 wc => ∃ (kq : Nat) (x44_5 : Bool), v44 = .bool x44_5 ∧ Aside0 (laws_FnLogAdd.j0 kq t386 t387 t388 t389 t390 t391 x44_5 = some r) ∧ Aside0 (kq ≤ k) ∧ Aside0 (Below w.heap.size w wc))
  case first =>
   have H := HC6.out
   clear HC6
   by_cases c10 : t388.toList = t390.toList
   ·
    rw [if_pos c10] at H
    have c10b0 : (t388.toList == t390.toList) = true := beq_iff_eq.mpr c10
    have c10b1 : (t388.toList != t390.toList) = false := bne_eq_false_iff_eq.mpr c10
    clear c10
    (first | rw [c10b0] | (simp only [i64_w, i32_w]; rw [c10b0]) | skip)
    by_cases c11 : (t389 != t391) = true
    ·
     rw [if_pos c11] at H
     have c11b0 : (t389 != t391) = true := c11
     (try (have c11b1 : decide (t389 = t391) = false := by simpa using c11))
     (try (have c11b2 : (t389 == t391) = false := by simpa using c11))
     (try (have c11b3 : ¬ (t389 = t391) := by simpa using c11))
     clear c11
     have H' := Aside0.mk H
     clear H
     go_wp2
     go_meet
     case rel => exact ⟨_, (true), (by first | rfl | (simp; done) | (simp [*]; done)), H', ⟨by first | omega | exact Nat.le_refl _⟩, ⟨by repeat (first | (with_reducible first | exact HB.out | apply below_alloc | apply pw_below_drewN | apply below_drew1) | exact HB.out)⟩⟩
    ·
     rw [if_neg c11] at H
     have c11b0 : (t389 != t391) = false := by simpa using c11
     (try (have c11b1 : decide (t389 = t391) = true := by simpa using c11))
     (try (have c11b2 : (t389 == t391) = true := by simpa using c11))
     clear c11
     have H' := Aside0.mk H
     clear H
     go_wp2
     go_meet
     case rel => exact ⟨_, (!t389), (by first | rfl | (simp; done) | (simp [*]; done)), H', ⟨by first | omega | exact Nat.le_refl _⟩, ⟨by repeat (first | (with_reducible first | exact HB.out | apply below_alloc | apply pw_below_drewN | apply below_drew1) | exact HB.out)⟩⟩
   ·
    rw [if_neg c10] at H
    have c10b0 : (t388.toList == t390.toList) = false := beq_eq_false_iff_ne.mpr c10
    have c10b1 : (t388.toList != t390.toList) = true := bne_iff_ne.mpr c10
    (first | rw [c10b0] | (simp only [i64_w, i32_w]; rw [c10b0]) | skip)
    have H' := Aside0.mk H
    clear H
    go_wp2
    go_meet
    case rel => exact ⟨_, (true), (by first | rfl | (simp; done) | (simp [*]; done)), H', ⟨by first | omega | exact Nat.le_refl _⟩, ⟨by repeat (first | (with_reducible first | exact HB.out | apply below_alloc | apply pw_below_drewN | apply below_drew1) | exact HB.out)⟩⟩
  case rest =>
   clear HC6
   try clear c1
   try clear c2
   try clear c2b0
   try clear c2b1
   try clear p2
   try clear c9
   try clear c10
   try clear c10b0
   try clear c10b1
   try clear c11
   try clear c11b0
   try clear c11b1
   try clear c11b2
   obtain ⟨kq, x44_5, rfl, HA, HJ5, HB⟩ := hcut
   cases kq with
   | zero => exact absurd HA.out (by simp [laws_FnLogAdd.j0])
   | succ kj5 =>
    have H := HA.out
    clear HA
    simp only [laws_FnLogAdd.j0] at H
    by_cases c12 : x44_5 = true
    ·
     subst c12
     have H1 : (if t388.toList = t390.toList then (some (t389 == t391)) else (some false)) = some r := by rw [if_pos rfl] at H; exact H
     clear H
     have H := H1
     clear H1
     by_cases c13 : t388.toList = t390.toList
     ·
      rw [if_pos c13] at H
      have c13b0 : (t388.toList == t390.toList) = true := beq_iff_eq.mpr c13
      have c13b1 : (t388.toList != t390.toList) = false := bne_eq_false_iff_eq.mpr c13
      clear c13
      obtain rfl := Option.some.inj H
      go_wp2
      go_ret
      exact ⟨by first | rfl | (simp [errW_none, errW_some] <;> rfl) | (simp [*, errW_none, errW_some] <;> rfl), by repeat (first | (with_reducible first | exact HB.out | apply below_alloc | apply pw_below_drewN | apply below_drew1) | exact HB.out)⟩
     ·
      rw [if_neg c13] at H
      have c13b0 : (t388.toList == t390.toList) = false := beq_eq_false_iff_ne.mpr c13
      have c13b1 : (t388.toList != t390.toList) = true := bne_iff_ne.mpr c13
      obtain rfl := Option.some.inj H
      go_wp2
      go_ret
      exact ⟨by first | rfl | (simp [errW_none, errW_some] <;> rfl) | (simp [*, errW_none, errW_some] <;> rfl), by repeat (first | (with_reducible first | exact HB.out | apply below_alloc | apply pw_below_drewN | apply below_drew1) | exact HB.out)⟩
    ·
     replace c12 := Bool.eq_false_iff.mpr c12
     subst c12
     have H1 : ((impl_LogRead.f kj5 t386).bind fun bt392 => ((impl_LogRead.f kj5 t388).bind fun bt396 => (if bt396.2 = (t388.size : Int) then (if (bt396.1.length : Int) = (wrap64 ((bt392.1.length : Int) + 1)) then (if 0 ≤ (bt392.1.length : Int) then (if (bt392.1.length : Int) ≤ (bt396.1.length : Int) then ((laws_whWords.f kj5 (bt396.1.take ((bt392.1.length : Int) : Int).toNat) bt392.1).bind fun t404 => (if t404 = true then (if (bt392.1.length : Int) < (bt396.1.length : Int) then (if (rdOf ByteArray.empty bt396.1 (bt392.1.length : Int)).toList = t387.toList then ((impl_LogOk.f kj5 t388).bind fun t406 => (if t406 = true then (if 0 ≤ (t386.size : Int) then (if (t386.size : Int) ≤ (t388.size : Int) then (laws_FnLogAdd.j1 kj5 ((t388.extract 0 ((t386.size : Int) : Int).toNat).toList == t386.toList)) else (none)) else (none)) else (laws_FnLogAdd.j1 kj5 false))) else (laws_FnLogAdd.j1 kj5 false)) else (none)) else (laws_FnLogAdd.j1 kj5 false))) else (none)) else (none)) else (laws_FnLogAdd.j1 kj5 false)) else (laws_FnLogAdd.j1 kj5 false)))) = some r := by rw [if_neg (show ¬ (false = true) by decide)] at H; exact H
     clear H
     have H := H1
     clear H1
     replace H := Option.bind_eq_some_iff.mp H
     obtain ⟨⟨t392, t393⟩, A140, H⟩ := H
     replace H : ((impl_LogRead.f kj5 t388).bind fun bt396 => (if bt396.2 = (t388.size : Int) then (if (bt396.1.length : Int) = (wrap64 ((t392.length : Int) + 1)) then (if 0 ≤ (t392.length : Int) then (if (t392.length : Int) ≤ (bt396.1.length : Int) then ((laws_whWords.f kj5 (bt396.1.take ((t392.length : Int) : Int).toNat) t392).bind fun t404 => (if t404 = true then (if (t392.length : Int) < (bt396.1.length : Int) then (if (rdOf ByteArray.empty bt396.1 (t392.length : Int)).toList = t387.toList then ((impl_LogOk.f kj5 t388).bind fun t406 => (if t406 = true then (if 0 ≤ (t386.size : Int) then (if (t386.size : Int) ≤ (t388.size : Int) then (laws_FnLogAdd.j1 kj5 ((t388.extract 0 ((t386.size : Int) : Int).toNat).toList == t386.toList)) else (none)) else (none)) else (laws_FnLogAdd.j1 kj5 false))) else (laws_FnLogAdd.j1 kj5 false)) else (none)) else (laws_FnLogAdd.j1 kj5 false))) else (none)) else (none)) else (laws_FnLogAdd.j1 kj5 false)) else (laws_FnLogAdd.j1 kj5 false))) = some r := H
     have A14 := Aside0.mk A140
     clear A140
     replace H := Option.bind_eq_some_iff.mp H
     obtain ⟨⟨t396, t397⟩, A150, H⟩ := H
     replace H : (if t397 = (t388.size : Int) then (if (t396.length : Int) = (wrap64 ((t392.length : Int) + 1)) then (if 0 ≤ (t392.length : Int) then (if (t392.length : Int) ≤ (t396.length : Int) then ((laws_whWords.f kj5 (t396.take ((t392.length : Int) : Int).toNat) t392).bind fun t404 => (if t404 = true then (if (t392.length : Int) < (t396.length : Int) then (if (rdOf ByteArray.empty t396 (t392.length : Int)).toList = t387.toList then ((impl_LogOk.f kj5 t388).bind fun t406 => (if t406 = true then (if 0 ≤ (t386.size : Int) then (if (t386.size : Int) ≤ (t388.size : Int) then (laws_FnLogAdd.j1 kj5 ((t388.extract 0 ((t386.size : Int) : Int).toNat).toList == t386.toList)) else (none)) else (none)) else (laws_FnLogAdd.j1 kj5 false))) else (laws_FnLogAdd.j1 kj5 false)) else (none)) else (laws_FnLogAdd.j1 kj5 false))) else (none)) else (none)) else (laws_FnLogAdd.j1 kj5 false)) else (laws_FnLogAdd.j1 kj5 false)) = some r := H
     have A15 := Aside0.mk A150
     clear A150
     have HC16 := Aside0.mk H
     clear H
     go_upto_region 10 with (first | ((with_reducible refine gate_callee (f := 18) rfl ?_); refine goesL_ (some 55) rfl rfl Tryd.func18 (by kernel_rfl) rfl #[.string t386] rfl (by (try simp only [List.map_toArray, List.map_cons, List.map_nil]); first | done | rfl | (simp only [List.length_drop, List.length_take]; rfl)) ?_; (with_reducible refine (impl_LogRead.calls kj5 t386 t392 t393 _ ?side1 A14.out).mono ?_); (case side1 => exact Glob.on HG.out (by repeat (first | (with_reducible first | exact HB.out | apply below_alloc | apply pw_below_drewN | apply below_drew1) | exact HB.out))); rintro e w17 ⟨v394, rfl, ho0, hb⟩; refine ⟨_, rfl, ?_⟩; have n0_ := Aside0.mk (Kd.R_lower ho0 (below_size (by repeat (first | (with_reducible first | exact HB.out | apply below_alloc | apply pw_below_drewN | apply below_drew1) | exact HB.out)))); have n1_ := Aside0.mk (below_step (by repeat (first | (with_reducible first | exact HB.out | apply below_alloc | apply pw_below_drewN | apply below_drew1) | exact HB.out)) hb); clear HB; have HO395 := n0_; have HB := n1_; clear n0_ n1_; (try clear hb); (try clear hb2); (try clear hk); (try clear hi); (try clear ho0)) | ((with_reducible refine gate_callee (f := 18) rfl ?_); refine goesL_ (some 60) rfl rfl Tryd.func18 (by kernel_rfl) rfl #[.string t388] rfl (by (try simp only [List.map_toArray, List.map_cons, List.map_nil]); first | done | rfl | (simp only [List.length_drop, List.length_take]; rfl)) ?_; (with_reducible refine (impl_LogRead.calls kj5 t388 t396 t397 _ ?side1 A15.out).mono ?_); (case side1 => exact Glob.on HG.out (by repeat (first | (with_reducible first | exact HB.out | apply below_alloc | apply pw_below_drewN | apply below_drew1) | exact HB.out))); rintro e w18 ⟨v398, rfl, ho0, hb⟩; refine ⟨_, rfl, ?_⟩; have n0_ := Aside0.mk (Kd.R_elder' (by (with_reducible repeat (first | apply Kd.R_alloc | apply Kd.R_drewN | apply Kd.R_drew)); exact HO395.out) (Kd.R_base ho0) hb); have n1_ := Aside0.mk (Kd.R_lower (Kd.R_new' ho0 (Kd.R_lt (by (with_reducible repeat (first | apply Kd.R_alloc | apply Kd.R_drewN | apply Kd.R_drew)); exact HO395.out))) (below_size (by repeat (first | (with_reducible first | exact HB.out | apply below_alloc | apply pw_below_drewN | apply below_drew1) | exact HB.out)))); have n2_ := Aside0.mk (below_step (by repeat (first | (with_reducible first | exact HB.out | apply below_alloc | apply pw_below_drewN | apply below_drew1) | exact HB.out)) hb); clear HO395; clear HB; have HO395 := n0_; have HO399 := n1_; have HB := n2_; clear n0_ n1_ n2_; (try clear hb); (try clear hb2); (try clear hk); (try clear hi); (try clear ho0)))
     (try simp only [Act.put, List.setIfInBounds_toArray, List.set_cons_zero, List.set_cons_succ])
     go_cut [2] (fun v2 wc => ∃ (kq : Nat) (x2_15 : Bool), v2 = .bool x2_15 ∧ Aside0 (laws_FnLogAdd.j1 kq x2_15 = some r) ∧ Aside0 (kq ≤ kj5) ∧ Aside0 (Below w.heap.size w wc))
     case first =>
      have H := HC16.out
      clear HC16
      by_cases c19 : t397 = (t388.size : Int)
      ·
       rw [if_pos c19] at H
       have c19b0 : (t397 == (t388.size : Int)) = true := beq_iff_eq.mpr c19
       have c19b1 : (t397 != (t388.size : Int)) = false := bne_eq_false_iff_eq.mpr c19
       clear c19
       (first | rw [c19b0] | (simp only [i64_w, i32_w]; rw [c19b0]) | skip)
       by_cases c20 : (t396.length : Int) = (wrap64 ((t392.length : Int) + 1))
       ·
        rw [if_pos c20] at H
        have c20b0 : ((t396.length : Int) == (wrap64 ((t392.length : Int) + 1))) = true := beq_iff_eq.mpr c20
        have c20b1 : ((t396.length : Int) != (wrap64 ((t392.length : Int) + 1))) = false := bne_eq_false_iff_eq.mpr c20
        clear c20
        by_cases c21 : 0 ≤ (t392.length : Int)
        ·
         rw [if_pos c21] at H
         have c21b0 := eq_true c21
         have c21b1 : decide (0 ≤ (t392.length : Int)) = true := decide_eq_true c21
         clear c21
         by_cases c22 : (t392.length : Int) ≤ (t396.length : Int)
         ·
          rw [if_pos c22] at H
          have c22b0 := eq_true c22
          have c22b1 : decide ((t392.length : Int) ≤ (t396.length : Int)) = true := decide_eq_true c22
          clear c22
          obtain ⟨y400, hy400⟩ : ∃ y_ : List ByteArray, y_ = (t396.take ((t392.length : Int) : Int).toNat) := ⟨_, rfl⟩
          replace H : ((laws_whWords.f kj5 y400 t392).bind fun t404 => (if t404 = true then (if (t392.length : Int) < (t396.length : Int) then (if (rdOf ByteArray.empty t396 (t392.length : Int)).toList = t387.toList then ((impl_LogOk.f kj5 t388).bind fun t406 => (if t406 = true then (if 0 ≤ (t386.size : Int) then (if (t386.size : Int) ≤ (t388.size : Int) then (laws_FnLogAdd.j1 kj5 ((t388.extract 0 ((t386.size : Int) : Int).toNat).toList == t386.toList)) else (none)) else (none)) else (laws_FnLogAdd.j1 kj5 false))) else (laws_FnLogAdd.j1 kj5 false)) else (none)) else (laws_FnLogAdd.j1 kj5 false))) = some r := by first | (rw [hy400]; with_reducible exact H) | (have H2_ := (Option.bind_some _ _).symm.trans H; rw [hy400]; with_reducible exact H2_) | (have H2_ := (Option.bind_some _ _).symm.trans H; with_reducible exact H2_) | with_reducible exact H | (rw [hy400]; exact H) | exact H
          have Ny400 := Aside0.mk hy400
          clear hy400
          replace H := Option.bind_eq_some_iff.mp H
          obtain ⟨t404, A230, H⟩ := H
          replace H : (if t404 = true then (if (t392.length : Int) < (t396.length : Int) then (if (rdOf ByteArray.empty t396 (t392.length : Int)).toList = t387.toList then ((impl_LogOk.f kj5 t388).bind fun t406 => (if t406 = true then (if 0 ≤ (t386.size : Int) then (if (t386.size : Int) ≤ (t388.size : Int) then (laws_FnLogAdd.j1 kj5 ((t388.extract 0 ((t386.size : Int) : Int).toNat).toList == t386.toList)) else (none)) else (none)) else (laws_FnLogAdd.j1 kj5 false))) else (laws_FnLogAdd.j1 kj5 false)) else (none)) else (laws_FnLogAdd.j1 kj5 false)) = some r := H
          have A23 := Aside0.mk A230
          clear A230
          by_cases c24 : t404 = true
          ·
           subst c24
           have H1 : (if (t392.length : Int) < (t396.length : Int) then (if (rdOf ByteArray.empty t396 (t392.length : Int)).toList = t387.toList then ((impl_LogOk.f kj5 t388).bind fun t406 => (if t406 = true then (if 0 ≤ (t386.size : Int) then (if (t386.size : Int) ≤ (t388.size : Int) then (laws_FnLogAdd.j1 kj5 ((t388.extract 0 ((t386.size : Int) : Int).toNat).toList == t386.toList)) else (none)) else (none)) else (laws_FnLogAdd.j1 kj5 false))) else (laws_FnLogAdd.j1 kj5 false)) else (none)) = some r := by rw [if_pos rfl] at H; exact H
           clear H
           have H := H1
           clear H1
           by_cases c25 : (t392.length : Int) < (t396.length : Int)
           ·
            rw [if_pos c25] at H
            have c25b0 : decide ((t392.length : Int) < (t396.length : Int)) = true := decide_eq_true c25
            have c25b1 : decide (t392.length < t396.length) = true := decide_eq_true (Int.ofNat_lt.mp c25)
            clear c25
            by_cases c26 : (rdOf ByteArray.empty t396 (t392.length : Int)).toList = t387.toList
            ·
             rw [if_pos c26] at H
             have c26b0 : ((rdOf ByteArray.empty t396 (t392.length : Int)).toList == t387.toList) = true := beq_iff_eq.mpr c26
             have c26b1 : ((rdOf ByteArray.empty t396 (t392.length : Int)).toList != t387.toList) = false := bne_eq_false_iff_eq.mpr c26
             clear c26
             replace H := Option.bind_eq_some_iff.mp H
             obtain ⟨t406, A270, H⟩ := H
             replace H : (if t406 = true then (if 0 ≤ (t386.size : Int) then (if (t386.size : Int) ≤ (t388.size : Int) then (laws_FnLogAdd.j1 kj5 ((t388.extract 0 ((t386.size : Int) : Int).toNat).toList == t386.toList)) else (none)) else (none)) else (laws_FnLogAdd.j1 kj5 false)) = some r := H
             have A27 := Aside0.mk A270
             clear A270
             by_cases c28 : t406 = true
             ·
              subst c28
              have H1 : (if 0 ≤ (t386.size : Int) then (if (t386.size : Int) ≤ (t388.size : Int) then (laws_FnLogAdd.j1 kj5 ((t388.extract 0 ((t386.size : Int) : Int).toNat).toList == t386.toList)) else (none)) else (none)) = some r := by rw [if_pos rfl] at H; exact H
              clear H
              have H := H1
              clear H1
              by_cases c29 : 0 ≤ (t386.size : Int)
              ·
               rw [if_pos c29] at H
               have c29b0 := eq_true c29
               have c29b1 : decide (0 ≤ (t386.size : Int)) = true := decide_eq_true c29
               clear c29
               by_cases c30 : (t386.size : Int) ≤ (t388.size : Int)
               ·
                rw [if_pos c30] at H
                have c30b0 := eq_true c30
                have c30b1 : decide ((t386.size : Int) ≤ (t388.size : Int)) = true := decide_eq_true c30
                clear c30
                have H' := Aside0.mk H
                clear H
                obtain ⟨Ao31, co31, eo31⟩ := Kd.R_slice HO399.out
                subst eo31
                obtain ⟨Ao32, co32, eo32⟩ := Kd.R_slice HO395.out
                subst eo32
                have q33 : ((t392.length : Int) : Int) ≤ ((t396.length : Int) : Int) := of_decide_eq_true (by first | (with_reducible assumption) | assumption)
                obtain ⟨i033, hi033, _, hsz33, _⟩ := info_parts info9
                have hroom33 : t396.length ≤ co31 := (Kd.R_reads' HO399.out).2.1
                have hC33 : Kd.C Kd.string _ Ao31 t396.length t396 := (Kd.R_reads' HO399.out).2.2
                have hcut33 := cut_to (P := Tryd.prog) 27 9 .i64 Tryd.underlying27 hi033 Ao31 t396.length co31 (t392.length : Int) (of_decide_eq_true (by first | (with_reducible assumption) | assumption)) q33 hroom33
                have hr33 := Kd.C_take (m := ((t392.length : Int) : Int).toNat) hC33 (by omega)
                have hy33 : y400.length = ((t392.length : Int) : Int).toNat := (by rw [Ny400.out, List.length_take]; omega)
                rw [← Ny400.out] at hr33
                rw [← hy33] at hcut33
                have HR403 := Aside0.mk hr33
                have HC403 := Aside0.mk (show y400.length ≤ co31 from by omega)
                clear hr33 hC33 hroom33 hi033 hsz33
                have KY33 := Aside0.mk hy33
                clear hy33
                have KL33 := Aside0.mk (show ((t392.length : Int) : Int).toNat ≤ t396.length from by omega)
                replace q33 := eq_true q33
                go_wp2_with (first | (go_at_call 25; (with_reducible refine (laws_whWords.calls kj5 _ _ y400 _ _ t392 true _ ?side1 ?side2 ?side3 ?side4 A23.out).mono ?_); (case side1 => repeat (first | exact (by repeat (first | (with_reducible exact HR403.out) | (with_reducible refine Kd.C_alloc ?_ _) | (with_reducible refine Kd.C_drewN ?_ _) | (with_reducible refine Kd.C_drew ?_) | exact HR403.out)) | (with_reducible refine Kd.C_alloc ?_ _) | (with_reducible refine Kd.C_drewN ?_ _) | (with_reducible refine Kd.C_drew ?_))); (case side2 => exact HC403.out); (case side3 => repeat (first | exact (Kd.R_reads' HO395.out).2.2 | (with_reducible refine Kd.C_alloc ?_ _) | (with_reducible refine Kd.C_drewN ?_ _) | (with_reducible refine Kd.C_drew ?_))); (case side4 => exact (Kd.R_reads' HO395.out).2.1); rintro e w' ⟨rfl, ⟨nd, rfl⟩⟩; have p405 : 0 ≤ ((t392.length : Int) : Int) := of_decide_eq_true (by first | (with_reducible assumption) | assumption); have q405 : (t392.length : Int) < (t396.length : Int) := of_decide_eq_true (by first | (with_reducible assumption) | assumption); obtain ⟨ad405, e405, hx405_0⟩ := Kd.at_string (Kd.R_reads' HO399.out).2.2 (t392.length : Int) p405 q405; cases e405; (try simp only [Go.IntWalk.toNatUp] at hx405_0); replace p405 := eq_true p405; replace q405 := eq_true q405) | (go_at_call 14; (with_reducible refine (impl_LogOk.calls kj5 t388 true _ ?side1 A27.out).mono ?_); (case side1 => exact Glob.on HG.out (by repeat (first | (with_reducible first | exact HB.out | apply below_alloc | apply pw_below_drewN | apply below_drew1) | exact HB.out))); rintro e w34 ⟨rfl, hb⟩; have n0_ := Aside0.mk (Kd.R_below (by (with_reducible repeat (first | apply Kd.R_alloc | apply Kd.R_drewN | apply Kd.R_drew)); exact HO395.out) hb); have n1_ := Aside0.mk (Kd.R_below (by (with_reducible repeat (first | apply Kd.R_alloc | apply Kd.R_drewN | apply Kd.R_drew)); exact HO399.out) hb); have n2_ := Aside0.mk (Kd.C_below (by repeat (first | (with_reducible exact HR403.out) | (with_reducible refine Kd.C_alloc ?_ _) | (with_reducible refine Kd.C_drewN ?_ _) | (with_reducible refine Kd.C_drew ?_) | exact HR403.out)) hb); have n3_ := Aside0.mk (below_step (by repeat (first | (with_reducible first | exact HB.out | apply below_alloc | apply pw_below_drewN | apply below_drew1) | exact HB.out)) hb); clear HO395; clear HO399; clear HR403; clear HB; have HO395 := n0_; have HO399 := n1_; have HR403 := n2_; have HB := n3_; clear n0_ n1_ n2_ n3_; (try clear hb); (try clear hb2); (try clear hk); (try clear hi)))
                go_meet
                case rel => exact ⟨_, (((t388.extract 0 ((t386.size : Int) : Int).toNat).toList == t386.toList)), (by first | rfl | (simp; done) | (simp [*]; done)), H', ⟨by have := HJ5.out; first | omega | exact Nat.le_refl _⟩, ⟨by repeat (first | (with_reducible first | exact HB.out | apply below_alloc | apply pw_below_drewN | apply below_drew1) | exact HB.out)⟩⟩
               ·
                rw [if_neg c30] at H
                exact absurd H (by simp)
              ·
               rw [if_neg c29] at H
               exact absurd H (by simp)
             ·
              replace c28 := Bool.eq_false_iff.mpr c28
              subst c28
              have H1 : (laws_FnLogAdd.j1 kj5 false) = some r := by rw [if_neg (show ¬ (false = true) by decide)] at H; exact H
              clear H
              have H := H1
              clear H1
              have H' := Aside0.mk H
              clear H
              obtain ⟨Ao35, co35, eo35⟩ := Kd.R_slice HO399.out
              subst eo35
              obtain ⟨Ao36, co36, eo36⟩ := Kd.R_slice HO395.out
              subst eo36
              have q37 : ((t392.length : Int) : Int) ≤ ((t396.length : Int) : Int) := of_decide_eq_true (by first | (with_reducible assumption) | assumption)
              obtain ⟨i037, hi037, _, hsz37, _⟩ := info_parts info9
              have hroom37 : t396.length ≤ co35 := (Kd.R_reads' HO399.out).2.1
              have hC37 : Kd.C Kd.string _ Ao35 t396.length t396 := (Kd.R_reads' HO399.out).2.2
              have hcut37 := cut_to (P := Tryd.prog) 27 9 .i64 Tryd.underlying27 hi037 Ao35 t396.length co35 (t392.length : Int) (of_decide_eq_true (by first | (with_reducible assumption) | assumption)) q37 hroom37
              have hr37 := Kd.C_take (m := ((t392.length : Int) : Int).toNat) hC37 (by omega)
              have hy37 : y400.length = ((t392.length : Int) : Int).toNat := (by rw [Ny400.out, List.length_take]; omega)
              rw [← Ny400.out] at hr37
              rw [← hy37] at hcut37
              have HR403 := Aside0.mk hr37
              have HC403 := Aside0.mk (show y400.length ≤ co35 from by omega)
              clear hr37 hC37 hroom37 hi037 hsz37
              have KY37 := Aside0.mk hy37
              clear hy37
              have KL37 := Aside0.mk (show ((t392.length : Int) : Int).toNat ≤ t396.length from by omega)
              replace q37 := eq_true q37
              go_wp2_with (first | (go_at_call 25; (with_reducible refine (laws_whWords.calls kj5 _ _ y400 _ _ t392 true _ ?side1 ?side2 ?side3 ?side4 A23.out).mono ?_); (case side1 => repeat (first | exact (by repeat (first | (with_reducible exact HR403.out) | (with_reducible refine Kd.C_alloc ?_ _) | (with_reducible refine Kd.C_drewN ?_ _) | (with_reducible refine Kd.C_drew ?_) | exact HR403.out)) | (with_reducible refine Kd.C_alloc ?_ _) | (with_reducible refine Kd.C_drewN ?_ _) | (with_reducible refine Kd.C_drew ?_))); (case side2 => exact HC403.out); (case side3 => repeat (first | exact (Kd.R_reads' HO395.out).2.2 | (with_reducible refine Kd.C_alloc ?_ _) | (with_reducible refine Kd.C_drewN ?_ _) | (with_reducible refine Kd.C_drew ?_))); (case side4 => exact (Kd.R_reads' HO395.out).2.1); rintro e w' ⟨rfl, ⟨nd, rfl⟩⟩; have p405 : 0 ≤ ((t392.length : Int) : Int) := of_decide_eq_true (by first | (with_reducible assumption) | assumption); have q405 : (t392.length : Int) < (t396.length : Int) := of_decide_eq_true (by first | (with_reducible assumption) | assumption); obtain ⟨ad405, e405, hx405_0⟩ := Kd.at_string (Kd.R_reads' HO399.out).2.2 (t392.length : Int) p405 q405; cases e405; (try simp only [Go.IntWalk.toNatUp] at hx405_0); replace p405 := eq_true p405; replace q405 := eq_true q405) | (go_at_call 14; (with_reducible refine (impl_LogOk.calls kj5 t388 false _ ?side1 A27.out).mono ?_); (case side1 => exact Glob.on HG.out (by repeat (first | (with_reducible first | exact HB.out | apply below_alloc | apply pw_below_drewN | apply below_drew1) | exact HB.out))); rintro e w38 ⟨rfl, hb⟩; have n0_ := Aside0.mk (Kd.R_below (by (with_reducible repeat (first | apply Kd.R_alloc | apply Kd.R_drewN | apply Kd.R_drew)); exact HO395.out) hb); have n1_ := Aside0.mk (Kd.R_below (by (with_reducible repeat (first | apply Kd.R_alloc | apply Kd.R_drewN | apply Kd.R_drew)); exact HO399.out) hb); have n2_ := Aside0.mk (Kd.C_below (by repeat (first | (with_reducible exact HR403.out) | (with_reducible refine Kd.C_alloc ?_ _) | (with_reducible refine Kd.C_drewN ?_ _) | (with_reducible refine Kd.C_drew ?_) | exact HR403.out)) hb); have n3_ := Aside0.mk (below_step (by repeat (first | (with_reducible first | exact HB.out | apply below_alloc | apply pw_below_drewN | apply below_drew1) | exact HB.out)) hb); clear HO395; clear HO399; clear HR403; clear HB; have HO395 := n0_; have HO399 := n1_; have HR403 := n2_; have HB := n3_; clear n0_ n1_ n2_ n3_; (try clear hb); (try clear hb2); (try clear hk); (try clear hi)))
              go_meet
              case rel => exact ⟨_, (false), (by first | rfl | (simp; done) | (simp [*]; done)), H', ⟨by have := HJ5.out; first | omega | exact Nat.le_refl _⟩, ⟨by repeat (first | (with_reducible first | exact HB.out | apply below_alloc | apply pw_below_drewN | apply below_drew1) | exact HB.out)⟩⟩
            ·
             rw [if_neg c26] at H
             have c26b0 : ((rdOf ByteArray.empty t396 (t392.length : Int)).toList == t387.toList) = false := beq_eq_false_iff_ne.mpr c26
             have c26b1 : ((rdOf ByteArray.empty t396 (t392.length : Int)).toList != t387.toList) = true := bne_iff_ne.mpr c26
             have H' := Aside0.mk H
             clear H
             obtain ⟨Ao39, co39, eo39⟩ := Kd.R_slice HO399.out
             subst eo39
             obtain ⟨Ao40, co40, eo40⟩ := Kd.R_slice HO395.out
             subst eo40
             have q41 : ((t392.length : Int) : Int) ≤ ((t396.length : Int) : Int) := of_decide_eq_true (by first | (with_reducible assumption) | assumption)
             obtain ⟨i041, hi041, _, hsz41, _⟩ := info_parts info9
             have hroom41 : t396.length ≤ co39 := (Kd.R_reads' HO399.out).2.1
             have hC41 : Kd.C Kd.string _ Ao39 t396.length t396 := (Kd.R_reads' HO399.out).2.2
             have hcut41 := cut_to (P := Tryd.prog) 27 9 .i64 Tryd.underlying27 hi041 Ao39 t396.length co39 (t392.length : Int) (of_decide_eq_true (by first | (with_reducible assumption) | assumption)) q41 hroom41
             have hr41 := Kd.C_take (m := ((t392.length : Int) : Int).toNat) hC41 (by omega)
             have hy41 : y400.length = ((t392.length : Int) : Int).toNat := (by rw [Ny400.out, List.length_take]; omega)
             rw [← Ny400.out] at hr41
             rw [← hy41] at hcut41
             have HR403 := Aside0.mk hr41
             have HC403 := Aside0.mk (show y400.length ≤ co39 from by omega)
             clear hr41 hC41 hroom41 hi041 hsz41
             have KY41 := Aside0.mk hy41
             clear hy41
             have KL41 := Aside0.mk (show ((t392.length : Int) : Int).toNat ≤ t396.length from by omega)
             replace q41 := eq_true q41
             go_wp2_with (first | (go_at_call 25; (with_reducible refine (laws_whWords.calls kj5 _ _ y400 _ _ t392 true _ ?side1 ?side2 ?side3 ?side4 A23.out).mono ?_); (case side1 => repeat (first | exact (by repeat (first | (with_reducible exact HR403.out) | (with_reducible refine Kd.C_alloc ?_ _) | (with_reducible refine Kd.C_drewN ?_ _) | (with_reducible refine Kd.C_drew ?_) | exact HR403.out)) | (with_reducible refine Kd.C_alloc ?_ _) | (with_reducible refine Kd.C_drewN ?_ _) | (with_reducible refine Kd.C_drew ?_))); (case side2 => exact HC403.out); (case side3 => repeat (first | exact (Kd.R_reads' HO395.out).2.2 | (with_reducible refine Kd.C_alloc ?_ _) | (with_reducible refine Kd.C_drewN ?_ _) | (with_reducible refine Kd.C_drew ?_))); (case side4 => exact (Kd.R_reads' HO395.out).2.1); rintro e w' ⟨rfl, ⟨nd, rfl⟩⟩; have p405 : 0 ≤ ((t392.length : Int) : Int) := of_decide_eq_true (by first | (with_reducible assumption) | assumption); have q405 : (t392.length : Int) < (t396.length : Int) := of_decide_eq_true (by first | (with_reducible assumption) | assumption); obtain ⟨ad405, e405, hx405_0⟩ := Kd.at_string (Kd.R_reads' HO399.out).2.2 (t392.length : Int) p405 q405; cases e405; (try simp only [Go.IntWalk.toNatUp] at hx405_0); replace p405 := eq_true p405; replace q405 := eq_true q405))
             go_meet
             case rel => exact ⟨_, (false), (by first | rfl | (simp; done) | (simp [*]; done)), H', ⟨by have := HJ5.out; first | omega | exact Nat.le_refl _⟩, ⟨by repeat (first | (with_reducible first | exact HB.out | apply below_alloc | apply pw_below_drewN | apply below_drew1) | exact HB.out)⟩⟩
           ·
            rw [if_neg c25] at H
            exact absurd H (by simp)
          ·
           replace c24 := Bool.eq_false_iff.mpr c24
           subst c24
           have H1 : (laws_FnLogAdd.j1 kj5 false) = some r := by rw [if_neg (show ¬ (false = true) by decide)] at H; exact H
           clear H
           have H := H1
           clear H1
           have H' := Aside0.mk H
           clear H
           obtain ⟨Ao42, co42, eo42⟩ := Kd.R_slice HO399.out
           subst eo42
           obtain ⟨Ao43, co43, eo43⟩ := Kd.R_slice HO395.out
           subst eo43
           have q44 : ((t392.length : Int) : Int) ≤ ((t396.length : Int) : Int) := of_decide_eq_true (by first | (with_reducible assumption) | assumption)
           obtain ⟨i044, hi044, _, hsz44, _⟩ := info_parts info9
           have hroom44 : t396.length ≤ co42 := (Kd.R_reads' HO399.out).2.1
           have hC44 : Kd.C Kd.string _ Ao42 t396.length t396 := (Kd.R_reads' HO399.out).2.2
           have hcut44 := cut_to (P := Tryd.prog) 27 9 .i64 Tryd.underlying27 hi044 Ao42 t396.length co42 (t392.length : Int) (of_decide_eq_true (by first | (with_reducible assumption) | assumption)) q44 hroom44
           have hr44 := Kd.C_take (m := ((t392.length : Int) : Int).toNat) hC44 (by omega)
           have hy44 : y400.length = ((t392.length : Int) : Int).toNat := (by rw [Ny400.out, List.length_take]; omega)
           rw [← Ny400.out] at hr44
           rw [← hy44] at hcut44
           have HR403 := Aside0.mk hr44
           have HC403 := Aside0.mk (show y400.length ≤ co42 from by omega)
           clear hr44 hC44 hroom44 hi044 hsz44
           have KY44 := Aside0.mk hy44
           clear hy44
           have KL44 := Aside0.mk (show ((t392.length : Int) : Int).toNat ≤ t396.length from by omega)
           replace q44 := eq_true q44
           go_wp2_with (first | (go_at_call 25; (with_reducible refine (laws_whWords.calls kj5 _ _ y400 _ _ t392 false _ ?side1 ?side2 ?side3 ?side4 A23.out).mono ?_); (case side1 => repeat (first | exact (by repeat (first | (with_reducible exact HR403.out) | (with_reducible refine Kd.C_alloc ?_ _) | (with_reducible refine Kd.C_drewN ?_ _) | (with_reducible refine Kd.C_drew ?_) | exact HR403.out)) | (with_reducible refine Kd.C_alloc ?_ _) | (with_reducible refine Kd.C_drewN ?_ _) | (with_reducible refine Kd.C_drew ?_))); (case side2 => exact HC403.out); (case side3 => repeat (first | exact (Kd.R_reads' HO395.out).2.2 | (with_reducible refine Kd.C_alloc ?_ _) | (with_reducible refine Kd.C_drewN ?_ _) | (with_reducible refine Kd.C_drew ?_))); (case side4 => exact (Kd.R_reads' HO395.out).2.1); rintro e w' ⟨rfl, ⟨nd, rfl⟩⟩))
           go_meet
           case rel => exact ⟨_, (false), (by first | rfl | (simp; done) | (simp [*]; done)), H', ⟨by have := HJ5.out; first | omega | exact Nat.le_refl _⟩, ⟨by repeat (first | (with_reducible first | exact HB.out | apply below_alloc | apply pw_below_drewN | apply below_drew1) | exact HB.out)⟩⟩
         ·
          rw [if_neg c22] at H
          exact absurd H (by simp)
        ·
         rw [if_neg c21] at H
         exact absurd H (by simp)
       ·
        rw [if_neg c20] at H
        have c20b0 : ((t396.length : Int) == (wrap64 ((t392.length : Int) + 1))) = false := beq_eq_false_iff_ne.mpr c20
        have c20b1 : ((t396.length : Int) != (wrap64 ((t392.length : Int) + 1))) = true := bne_iff_ne.mpr c20
        have H' := Aside0.mk H
        clear H
        obtain ⟨Ao45, co45, eo45⟩ := Kd.R_slice HO399.out
        subst eo45
        obtain ⟨Ao46, co46, eo46⟩ := Kd.R_slice HO395.out
        subst eo46
        go_wp2
        go_meet
        case rel => exact ⟨_, (false), (by first | rfl | (simp; done) | (simp [*]; done)), H', ⟨by have := HJ5.out; first | omega | exact Nat.le_refl _⟩, ⟨by repeat (first | (with_reducible first | exact HB.out | apply below_alloc | apply pw_below_drewN | apply below_drew1) | exact HB.out)⟩⟩
      ·
       rw [if_neg c19] at H
       have c19b0 : (t397 == (t388.size : Int)) = false := beq_eq_false_iff_ne.mpr c19
       have c19b1 : (t397 != (t388.size : Int)) = true := bne_iff_ne.mpr c19
       (first | rw [c19b0] | (simp only [i64_w, i32_w]; rw [c19b0]) | skip)
       have H' := Aside0.mk H
       clear H
       go_wp2
       go_meet
       case rel => exact ⟨_, (false), (by first | rfl | (simp; done) | (simp [*]; done)), H', ⟨by have := HJ5.out; first | omega | exact Nat.le_refl _⟩, ⟨by repeat (first | (with_reducible first | exact HB.out | apply below_alloc | apply pw_below_drewN | apply below_drew1) | exact HB.out)⟩⟩
     case rest =>
      clear HC16
      try clear c1
      try clear c2
      try clear c2b0
      try clear c2b1
      try clear p2
      try clear c3
      try clear q3
      try clear p4
      try clear q4
      try clear hx4
      try clear p6
      try clear c9
      try clear c10
      try clear c10b0
      try clear c10b1
      try clear c11
      try clear c11b0
      try clear c11b1
      try clear c11b2
      try clear c12
      try clear c13
      try clear c13b0
      try clear c13b1
      try clear c15
      try clear c16
      try clear c18
      try clear c19
      try clear c19b0
      try clear c19b1
      try clear c20
      try clear c20b0
      try clear c20b1
      try clear c21
      try clear c21b0
      try clear c21b1
      try clear c22
      try clear c22b0
      try clear c22b1
      try clear c24
      try clear c25
      try clear c25b0
      try clear c25b1
      try clear c26
      try clear c26b0
      try clear c26b1
      try clear c27
      try clear c28
      try clear c29
      try clear c29b0
      try clear c29b1
      try clear c30
      try clear c30b0
      try clear c30b1
      try clear q33
      try clear q37
      try clear p40
      try clear q40
      try clear hx40
      try clear q41
      try clear q44
      try clear hx405_0
      try clear p2
      try clear p405
      try clear q33
      try clear q37
      try clear q405
      try clear q41
      try clear q44
      obtain ⟨kq, x2_15, rfl, HA, HJ15, HB⟩ := hcut
      cases kq with
      | zero => exact absurd HA.out (by simp [laws_FnLogAdd.j1])
      | succ kj15 =>
       have H := HA.out
       clear HA
       simp only [laws_FnLogAdd.j1] at H
       obtain rfl := Option.some.inj H
       go_wp2
       go_ret
       exact ⟨by first | rfl | (simp [errW_none, errW_some] <;> rfl) | (simp [*, errW_none, errW_some] <;> rfl), by repeat (first | (with_reducible first | exact HB.out | apply below_alloc | apply pw_below_drewN | apply below_drew1) | exact HB.out)⟩

/-- THE ONE PURE STATEMENT of laws_FnLogAdd: yours. -/
def laws_FnLogAdd.Pure : Prop := ∀ (l0 : List Int), l0.length ≤ maxLen → l0.length * 1 ≤ 140737488351232 → (∀ x ∈ l0, (Lit.int .u8 x).wf = true) → ∃ k, laws_FnLogAdd.f k l0 = some true
theorem laws_FnLogAdd.walk (P : laws_FnLogAdd.Pure) (a0 : Option Addr) (len0 cap0 : Nat) (z0 : List Int) (w : World) (w0 : (a0 = none ∧ len0 = 0 ∧ cap0 = 0 ∧ z0 = []) ∨ ∃ x, a0 = some x ∧ len0 ≤ cap0 ∧ cap0 ≤ maxLen ∧ z0.length = cap0 ∧ (∀ i, i < z0.length → w.cell? (x.add i) = some (.int .u8 (z0.getD i 0))) ∧ ∀ n ∈ z0, (Lit.int .u8 n).wf = true) (y0 : len0 * 1 ≤ 140737488351232) (hG : Glob w) :
  Calls Tryd.prog 9 #[.slice a0 len0 cap0] w fun e w' => e = .returned (.bool true) ∧ Below w.heap.size w w' := by
 obtain ⟨l0, rfl, hr0, hm0, hw0, hc0⟩ := ReadsInt.ofRowC w0
 obtain ⟨k, h⟩ := P l0 hm0 y0 hw0
 refine (laws_FnLogAdd.calls k _ _ l0 true w (Kd.C_of_reads (d := (0 : Int)) (h1 := fun _ => rfl) hr0) hc0 hG h).mono ?_
 rintro e w' ⟨rfl, hd⟩
 exact ⟨rfl, hd⟩

/-! ### spec_LogTorn: function 22 -/
def spec_LogTorn.j0 : Nat → ByteArray → Int → ByteArray → Bool → Option (ByteArray)
 | 0, _, _, _, _ => none
 | k + 1, x0, x2, x7, x20 => if x20 = true then (some x0) else (if x2 > (wrap64 ((x7.size : Int) - (x0.size : Int))) then (some x7) else (if 0 ≤ (wrap64 ((x0.size : Int) + x2)) then (if (wrap64 ((x0.size : Int) + x2)) ≤ (x7.size : Int) then (some (x7.extract 0 ((wrap64 ((x0.size : Int) + x2)) : Int).toNat)) else (none)) else (none)))
def spec_LogTorn.f (k : Nat) (a0 : ByteArray) (a1 : ByteArray) (a2 : Int) : Option (ByteArray) := (spec_LogAdd.f k a0 a1).bind fun bt407 => (if bt407.2 = true then (spec_LogTorn.j0 k a0 a2 bt407.1 (decide (a2 < 0))) else (spec_LogTorn.j0 k a0 a2 bt407.1 true))
theorem spec_LogTorn.mono_l : ∀ k, (∀ y0 y1 y2 y3, LeO (spec_LogTorn.j0 k y0 y1 y2 y3) (spec_LogTorn.j0 (k + 1) y0 y1 y2 y3))
 | 0 => fun _ _ _ _ r h => by simp [spec_LogTorn.j0] at h
 | k + 1 => by
  have ih0 := spec_LogTorn.mono_l k
  ·
   intro y0 y1 y2 y3
   unfold spec_LogTorn.j0
   repeat' first
   | (with_reducible exact ih0 _ _ _ _)
   | (with_reducible exact spec_LogAdd.mono _ _ _)
   | (with_reducible exact LeO.refl _)
   | (with_reducible exact LeO.none _)
   | (with_reducible refine LeO.ite ?_ ?_)
   | (with_reducible refine LeO.bind ?_ (fun _ => ?_))
   | exact ih0 _ _ _ _
   | exact spec_LogAdd.mono _ _ _
   | exact LeO.none _
   | refine LeO.ite ?_ ?_
   | refine LeO.bind ?_ (fun _ => ?_)
theorem spec_LogTorn.mono : ∀ a0 a1 a2 k, LeO (spec_LogTorn.f k a0 a1 a2) (spec_LogTorn.f (k + 1) a0 a1 a2) := by
 intro a0 a1 a2 k
 have ih0 := spec_LogTorn.mono_l k
 unfold spec_LogTorn.f
 repeat' first
   | (with_reducible exact ih0 _ _ _ _)
   | (with_reducible exact spec_LogAdd.mono _ _ _)
   | (with_reducible exact LeO.refl _)
   | (with_reducible exact LeO.none _)
   | (with_reducible refine LeO.ite ?_ ?_)
   | (with_reducible refine LeO.bind ?_ (fun _ => ?_))
   | exact ih0 _ _ _ _
   | exact spec_LogAdd.mono _ _ _
   | exact LeO.none _
   | refine LeO.ite ?_ ?_
   | refine LeO.bind ?_ (fun _ => ?_)
set_option maxHeartbeats 8000000 in
set_option maxRecDepth 100000 in
theorem spec_LogTorn.calls (k : Nat) (a0 : ByteArray) (a1 : ByteArray) (a2 : Int) (r : ByteArray) (w : World) (h : spec_LogTorn.f k a0 a1 a2 = some r) :
  Calls Tryd.prog 22 #[.string a0, .string a1, .int .i64 a2] w fun e w' => e = .returned (.string r) ∧ Below w.heap.size w w' := by
 have HB := Aside0.mk (Below.refl w.heap.size w)
 have H : ((spec_LogAdd.f k a0 a1).bind fun bt407 => (if bt407.2 = true then (spec_LogTorn.j0 k a0 a2 bt407.1 (decide (a2 < 0))) else (spec_LogTorn.j0 k a0 a2 bt407.1 true))) = some r := h
 clear h
 replace H := Option.bind_eq_some_iff.mp H
 obtain ⟨⟨t407, t408⟩, A40, H⟩ := H
 replace H : (if t408 = true then (spec_LogTorn.j0 k a0 a2 t407 (decide (a2 < 0))) else (spec_LogTorn.j0 k a0 a2 t407 true)) = some r := H
 have A4 := Aside0.mk A40
 clear A40
 have HC5 := Aside0.mk H
 clear H
 go_enter Tryd.func22, Tryd.ntmps22
 go_upto_region 2 with (first | ((with_reducible refine gate_callee (f := 15) rfl ?_); refine goesL_ (some 12) rfl rfl Tryd.func15 (by kernel_rfl) rfl #[.string a0, .string a1] rfl (by (try simp only [List.map_toArray, List.map_cons, List.map_nil]); first | done | rfl | (simp only [List.length_drop, List.length_take]; rfl)) ?_; (with_reducible refine (spec_LogAdd.calls k a0 a1 t407 t408 _ A4.out).mono ?_); rintro e w6 ⟨rfl, hb⟩; refine ⟨_, rfl, ?_⟩; have n0_ := Aside0.mk (below_step (by repeat (first | (with_reducible first | exact HB.out | apply below_alloc | apply pw_below_drewN | apply below_drew1) | exact HB.out)) hb); clear HB; have HB := n0_; clear n0_; (try clear hb); (try clear hb2); (try clear hk); (try clear hi)))
 (try simp only [Act.put, List.setIfInBounds_toArray, List.set_cons_zero, List.set_cons_succ])
 go_cut [20] (fun v20 wc => ∃ (kq : Nat) (x20_4 : Bool), v20 = .bool x20_4 ∧ Aside0 (spec_LogTorn.j0 kq a0 a2 t407 x20_4 = some r) ∧ Aside0 (kq ≤ k) ∧ Aside0 (Below w.heap.size w wc))
 case first =>
  have H := HC5.out
  clear HC5
  by_cases c7 : t408 = true
  ·
   subst c7
   have H1 : (spec_LogTorn.j0 k a0 a2 t407 (decide (a2 < 0))) = some r := by rw [if_pos rfl] at H; exact H
   clear H
   have H := H1
   clear H1
   have H' := Aside0.mk H
   clear H
   go_wp2
   go_meet
   case rel => exact ⟨_, (decide (a2 < 0)), (by first | rfl | (simp; done) | (simp [*]; done)), H', ⟨by first | omega | exact Nat.le_refl _⟩, ⟨by repeat (first | (with_reducible first | exact HB.out | apply below_alloc | apply pw_below_drewN | apply below_drew1) | exact HB.out)⟩⟩
  ·
   replace c7 := Bool.eq_false_iff.mpr c7
   subst c7
   have H1 : (spec_LogTorn.j0 k a0 a2 t407 true) = some r := by rw [if_neg (show ¬ (false = true) by decide)] at H; exact H
   clear H
   have H := H1
   clear H1
   have H' := Aside0.mk H
   clear H
   go_wp2
   go_meet
   case rel => exact ⟨_, (true), (by first | rfl | (simp; done) | (simp [*]; done)), H', ⟨by first | omega | exact Nat.le_refl _⟩, ⟨by repeat (first | (with_reducible first | exact HB.out | apply below_alloc | apply pw_below_drewN | apply below_drew1) | exact HB.out)⟩⟩
 case rest =>
  clear HC5
  try clear c1
  try clear c2
  try clear p2
  try clear c7
  obtain ⟨kq, x20_4, rfl, HA, HJ4, HB⟩ := hcut
  cases kq with
  | zero => exact absurd HA.out (by simp [spec_LogTorn.j0])
  | succ kj4 =>
   have H := HA.out
   clear HA
   simp only [spec_LogTorn.j0] at H
   by_cases c8 : x20_4 = true
   ·
    subst c8
    have H1 : (some a0) = some r := by rw [if_pos rfl] at H; exact H
    clear H
    have H := H1
    clear H1
    obtain rfl := Option.some.inj H
    go_wp2
    go_ret
    exact ⟨by first | rfl | (simp [errW_none, errW_some] <;> rfl) | (simp [*, errW_none, errW_some] <;> rfl), by repeat (first | (with_reducible first | exact HB.out | apply below_alloc | apply pw_below_drewN | apply below_drew1) | exact HB.out)⟩
   ·
    replace c8 := Bool.eq_false_iff.mpr c8
    subst c8
    have H1 : (if a2 > (wrap64 ((t407.size : Int) - (a0.size : Int))) then (some t407) else (if 0 ≤ (wrap64 ((a0.size : Int) + a2)) then (if (wrap64 ((a0.size : Int) + a2)) ≤ (t407.size : Int) then (some (t407.extract 0 ((wrap64 ((a0.size : Int) + a2)) : Int).toNat)) else (none)) else (none))) = some r := by rw [if_neg (show ¬ (false = true) by decide)] at H; exact H
    clear H
    have H := H1
    clear H1
    by_cases c9 : a2 > (wrap64 ((t407.size : Int) - (a0.size : Int)))
    ·
     rw [if_pos c9] at H
     have c9b0 : decide ((wrap64 ((t407.size : Int) - (a0.size : Int))) < a2) = true := decide_eq_true c9
     clear c9
     obtain rfl := Option.some.inj H
     go_wp2
     go_ret
     exact ⟨by first | rfl | (simp [errW_none, errW_some] <;> rfl) | (simp [*, errW_none, errW_some] <;> rfl), by repeat (first | (with_reducible first | exact HB.out | apply below_alloc | apply pw_below_drewN | apply below_drew1) | exact HB.out)⟩
    ·
     rw [if_neg c9] at H
     have c9b0 : decide ((wrap64 ((t407.size : Int) - (a0.size : Int))) < a2) = false := decide_eq_false c9
     clear c9
     obtain ⟨ji10, hji10⟩ : ∃ j_ : Int, (wrap64 ((a0.size : Int) + a2)) = j_ := ⟨_, rfl⟩
     replace H : (if 0 ≤ (ji10) then (if (ji10) ≤ (t407.size : Int) then (some (t407.extract 0 ((ji10) : Int).toNat)) else (none)) else (none)) = some r := by first | (rw [hji10] at H; exact H) | (simp only [hji10] at H ⊢; exact H)
     have hji10w : (IntKind.i64.wrap ((a0.size : Int) + a2)) = ji10 := (i64_w _).trans hji10
     by_cases c11 : 0 ≤ (ji10)
     ·
      rw [if_pos c11] at H
      have c11b0 := eq_true c11
      have c11b1 : decide (0 ≤ (ji10)) = true := decide_eq_true c11
      clear c11
      by_cases c12 : (ji10) ≤ (t407.size : Int)
      ·
       rw [if_pos c12] at H
       have c12b0 := eq_true c12
       have c12b1 : decide ((ji10) ≤ (t407.size : Int)) = true := decide_eq_true c12
       clear c12
       obtain rfl := Option.some.inj H
       go_wp2
       go_ret
       exact ⟨by first | rfl | (simp [errW_none, errW_some] <;> rfl) | (simp only [← hji10]; first | rfl | (simp [errW_none, errW_some] <;> rfl)) | (simp [*, errW_none, errW_some] <;> rfl), by repeat (first | (with_reducible first | exact HB.out | apply below_alloc | apply pw_below_drewN | apply below_drew1) | exact HB.out)⟩
      ·
       rw [if_neg c12] at H
       exact absurd H (by simp)
     ·
      rw [if_neg c11] at H
      exact absurd H (by simp)

/-! ### impl_LogTorn: function 23 -/
def impl_LogTorn.f (k : Nat) (a0 : ByteArray) (a1 : ByteArray) (a2 : Int) : Option (ByteArray) := (impl_LogAdd.f k a0 a1).bind fun bt409 => (if bt409.2 = true then (if 0 ≤ (wrap64 ((a0.size : Int) + (mn (mx a2 0) (wrap64 ((bt409.1.size : Int) - (a0.size : Int)))))) then (if (wrap64 ((a0.size : Int) + (mn (mx a2 0) (wrap64 ((bt409.1.size : Int) - (a0.size : Int)))))) ≤ (bt409.1.size : Int) then (some (bt409.1.extract 0 ((wrap64 ((a0.size : Int) + (mn (mx a2 0) (wrap64 ((bt409.1.size : Int) - (a0.size : Int)))))) : Int).toNat)) else (none)) else (none)) else (some a0))
theorem impl_LogTorn.mono : ∀ a0 a1 a2 k, LeO (impl_LogTorn.f k a0 a1 a2) (impl_LogTorn.f (k + 1) a0 a1 a2) := by
 intro a0 a1 a2 k
 unfold impl_LogTorn.f
 repeat' first
   | (with_reducible exact impl_LogAdd.mono _ _ _)
   | (with_reducible exact LeO.refl _)
   | (with_reducible exact LeO.none _)
   | (with_reducible refine LeO.ite ?_ ?_)
   | (with_reducible refine LeO.bind ?_ (fun _ => ?_))
   | exact impl_LogAdd.mono _ _ _
   | exact LeO.none _
   | refine LeO.ite ?_ ?_
   | refine LeO.bind ?_ (fun _ => ?_)
set_option maxHeartbeats 8000000 in
set_option maxRecDepth 100000 in
theorem impl_LogTorn.calls (k : Nat) (a0 : ByteArray) (a1 : ByteArray) (a2 : Int) (r : ByteArray) (w : World) (hG : Glob w) (h : impl_LogTorn.f k a0 a1 a2 = some r) :
  Calls Tryd.prog 23 #[.string a0, .string a1, .int .i64 a2] w fun e w' => e = .returned (.string r) ∧ Below w.heap.size w w' := by
 have HG := Aside0.mk hG
 clear hG
 have HB := Aside0.mk (Below.refl w.heap.size w)
 have H : ((impl_LogAdd.f k a0 a1).bind fun bt409 => (if bt409.2 = true then (if 0 ≤ (wrap64 ((a0.size : Int) + (mn (mx a2 0) (wrap64 ((bt409.1.size : Int) - (a0.size : Int)))))) then (if (wrap64 ((a0.size : Int) + (mn (mx a2 0) (wrap64 ((bt409.1.size : Int) - (a0.size : Int)))))) ≤ (bt409.1.size : Int) then (some (bt409.1.extract 0 ((wrap64 ((a0.size : Int) + (mn (mx a2 0) (wrap64 ((bt409.1.size : Int) - (a0.size : Int)))))) : Int).toNat)) else (none)) else (none)) else (some a0))) = some r := h
 clear h
 replace H := Option.bind_eq_some_iff.mp H
 obtain ⟨⟨t409, t410⟩, A40, H⟩ := H
 replace H : (if t410 = true then (if 0 ≤ (wrap64 ((a0.size : Int) + (mn (mx a2 0) (wrap64 ((t409.size : Int) - (a0.size : Int)))))) then (if (wrap64 ((a0.size : Int) + (mn (mx a2 0) (wrap64 ((t409.size : Int) - (a0.size : Int)))))) ≤ (t409.size : Int) then (some (t409.extract 0 ((wrap64 ((a0.size : Int) + (mn (mx a2 0) (wrap64 ((t409.size : Int) - (a0.size : Int)))))) : Int).toNat)) else (none)) else (none)) else (some a0)) = some r := H
 have A4 := Aside0.mk A40
 clear A40
 by_cases c5 : t410 = true
 ·
  subst c5
  have H1 : (if 0 ≤ (wrap64 ((a0.size : Int) + (mn (mx a2 0) (wrap64 ((t409.size : Int) - (a0.size : Int)))))) then (if (wrap64 ((a0.size : Int) + (mn (mx a2 0) (wrap64 ((t409.size : Int) - (a0.size : Int)))))) ≤ (t409.size : Int) then (some (t409.extract 0 ((wrap64 ((a0.size : Int) + (mn (mx a2 0) (wrap64 ((t409.size : Int) - (a0.size : Int)))))) : Int).toNat)) else (none)) else (none)) = some r := by rw [if_pos rfl] at H; exact H
  clear H
  have H := H1
  clear H1
  obtain ⟨ji6, hji6⟩ : ∃ j_ : Int, (mx a2 0) = j_ := ⟨_, rfl⟩
  replace H : (if 0 ≤ (wrap64 ((a0.size : Int) + (mn (ji6) (wrap64 ((t409.size : Int) - (a0.size : Int)))))) then (if (wrap64 ((a0.size : Int) + (mn (ji6) (wrap64 ((t409.size : Int) - (a0.size : Int)))))) ≤ (t409.size : Int) then (some (t409.extract 0 ((wrap64 ((a0.size : Int) + (mn (ji6) (wrap64 ((t409.size : Int) - (a0.size : Int)))))) : Int).toNat)) else (none)) else (none)) = some r := by first | (rw [hji6] at H; exact H) | (simp only [hji6] at H ⊢; exact H)
  (try rw [hji6] at A4)
  (try (have hji6l : 0 ≤ ji6 := by (rw [← hji6]; unfold mx; (repeat' split) <;> omega)))
  (try (have hji6m : 0 ≤ ji6 := by omega))
  have hji6_ : (if a2 < 0 then 0 else a2) = ji6 := hji6
  obtain ⟨ji7, hji7⟩ : ∃ j_ : Int, (mn (ji6) (wrap64 ((t409.size : Int) - (a0.size : Int)))) = j_ := ⟨_, rfl⟩
  replace H : (if 0 ≤ (wrap64 ((a0.size : Int) + (ji7))) then (if (wrap64 ((a0.size : Int) + (ji7))) ≤ (t409.size : Int) then (some (t409.extract 0 ((wrap64 ((a0.size : Int) + (ji7))) : Int).toNat)) else (none)) else (none)) = some r := by first | (rw [hji7] at H; exact H) | (simp only [hji7] at H ⊢; exact H)
  (try rw [hji7] at A4)
  have hji7_ : (if (wrap64 ((t409.size : Int) - (a0.size : Int))) < (ji6) then (wrap64 ((t409.size : Int) - (a0.size : Int))) else (ji6)) = ji7 := hji7
  obtain ⟨ji8, hji8⟩ : ∃ j_ : Int, (wrap64 ((a0.size : Int) + (ji7))) = j_ := ⟨_, rfl⟩
  replace H : (if 0 ≤ (ji8) then (if (ji8) ≤ (t409.size : Int) then (some (t409.extract 0 ((ji8) : Int).toNat)) else (none)) else (none)) = some r := by first | (rw [hji8] at H; exact H) | (simp only [hji8] at H ⊢; exact H)
  (try rw [hji8] at A4)
  have hji8w : (IntKind.i64.wrap ((a0.size : Int) + (ji7))) = ji8 := (i64_w _).trans hji8
  by_cases c9 : 0 ≤ (ji8)
  ·
   rw [if_pos c9] at H
   have c9b0 := eq_true c9
   have c9b1 : decide (0 ≤ (ji8)) = true := decide_eq_true c9
   clear c9
   by_cases c10 : (ji8) ≤ (t409.size : Int)
   ·
    rw [if_pos c10] at H
    have c10b0 := eq_true c10
    have c10b1 : decide ((ji8) ≤ (t409.size : Int)) = true := decide_eq_true c10
    clear c10
    obtain rfl := Option.some.inj H
    go_enter Tryd.func23, Tryd.ntmps23
    go_wp2_with (first | ((with_reducible refine gate_callee (f := 16) rfl ?_); refine goesL_ (some 12) rfl rfl Tryd.func16 (by kernel_rfl) rfl #[.string a0, .string a1] rfl (by (try simp only [List.map_toArray, List.map_cons, List.map_nil]); first | done | rfl | (simp only [List.length_drop, List.length_take]; rfl)) ?_; (with_reducible refine (impl_LogAdd.calls k a0 a1 t409 true _ ?side1 A4.out).mono ?_); (case side1 => exact Glob.on HG.out (by repeat (first | (with_reducible first | exact HB.out | apply below_alloc | apply pw_below_drewN | apply below_drew1) | exact HB.out))); rintro e w11 ⟨rfl, hb⟩; refine ⟨_, rfl, ?_⟩; have n0_ := Aside0.mk (below_step (by repeat (first | (with_reducible first | exact HB.out | apply below_alloc | apply pw_below_drewN | apply below_drew1) | exact HB.out)) hb); clear HB; have HB := n0_; clear n0_; (try clear hb); (try clear hb2); (try clear hk); (try clear hi)))
    go_ret
    exact ⟨by first | rfl | (simp [errW_none, errW_some] <;> rfl) | (simp only [← hji6, ← hji7, ← hji8]; first | rfl | (simp [errW_none, errW_some] <;> rfl)) | (simp [*, errW_none, errW_some] <;> rfl), by repeat (first | (with_reducible first | exact HB.out | apply below_alloc | apply pw_below_drewN | apply below_drew1) | exact HB.out)⟩
   ·
    rw [if_neg c10] at H
    exact absurd H (by simp)
  ·
   rw [if_neg c9] at H
   exact absurd H (by simp)
 ·
  replace c5 := Bool.eq_false_iff.mpr c5
  subst c5
  have H1 : (some a0) = some r := by rw [if_neg (show ¬ (false = true) by decide)] at H; exact H
  clear H
  have H := H1
  clear H1
  obtain rfl := Option.some.inj H
  go_enter Tryd.func23, Tryd.ntmps23
  go_wp2_with (first | ((with_reducible refine gate_callee (f := 16) rfl ?_); refine goesL_ (some 12) rfl rfl Tryd.func16 (by kernel_rfl) rfl #[.string a0, .string a1] rfl (by (try simp only [List.map_toArray, List.map_cons, List.map_nil]); first | done | rfl | (simp only [List.length_drop, List.length_take]; rfl)) ?_; (with_reducible refine (impl_LogAdd.calls k a0 a1 t409 false _ ?side1 A4.out).mono ?_); (case side1 => exact Glob.on HG.out (by repeat (first | (with_reducible first | exact HB.out | apply below_alloc | apply pw_below_drewN | apply below_drew1) | exact HB.out))); rintro e w12 ⟨rfl, hb⟩; refine ⟨_, rfl, ?_⟩; have n0_ := Aside0.mk (below_step (by repeat (first | (with_reducible first | exact HB.out | apply below_alloc | apply pw_below_drewN | apply below_drew1) | exact HB.out)) hb); clear HB; have HB := n0_; clear n0_; (try clear hb); (try clear hb2); (try clear hk); (try clear hi)))
  go_ret
  exact ⟨by first | rfl | (simp [errW_none, errW_some] <;> rfl) | (simp [*, errW_none, errW_some] <;> rfl), by repeat (first | (with_reducible first | exact HB.out | apply below_alloc | apply pw_below_drewN | apply below_drew1) | exact HB.out)⟩

end Go.Proofs.YtagdiodhdnebaaaDoor.P
