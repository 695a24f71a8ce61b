-- made by wip/prt/pp.py over the kit's print
import Derived.Test.YtoohbmoljdfbjaaPx0
import Derived.Test.YtoohbmoljdfbjaaCmp
import Derived.Test.YtoohbmoljdfbjaaFind
namespace Go.Proofs.Ytoohbmoljdfbjaa.P
open Go.RowKit Go.Proofs.YtoohbmoljdfbjaaW.PrintWords Go.Proofs.YtoohbmoljdfbjaaW.PrintLast Go.Proofs.YtoohbmoljdfbjaaW.PrintMore
attribute [local go_sem] max2_int min2_int max_two min_two max_three min_three max_four min_four   -- for this text's walks alone
set_option linter.unusedVariables false
set_option linter.unusedSimpArgs false
def impl_Cat_bytes.l0 : Nat → Int → Int → List (S38) → Int → Int → Option (Int)
 | 0, _, _, _, _, _ => none
 | k + 1, x1, x5, x9, x10, x11 => if x11 < x10 then (if 0 ≤ x11 then (if x11 < (x9.length : Int) then (if ((rd_T38 x9 x11).f0) = x1 then (impl_Cat_bytes.l0 k x1 (wrap64 (x5 + (((rd_T38 x9 x11).f3).size : Int))) x9 x10 (wrap64 (x11 + 1))) else (impl_Cat_bytes.l0 k x1 x5 x9 x10 (wrap64 (x11 + 1)))) else (none)) else (none)) else (some x5)
def impl_Cat_bytes.f (k : Nat) (a0_0 : Int) (l0_1 : List (S38)) (a1 : Int) : Option (Int) := impl_Cat_bytes.l0 k a1 0 l0_1 (l0_1.length : Int) 0
theorem impl_Cat_bytes.mono_l : ∀ k, (∀ y0 y1 y2 y3 y4, LeO (impl_Cat_bytes.l0 k y0 y1 y2 y3 y4) (impl_Cat_bytes.l0 (k + 1) y0 y1 y2 y3 y4))
 | 0 => fun _ _ _ _ _ r h => by simp [impl_Cat_bytes.l0] at h
 | k + 1 => by
  have ih0 := impl_Cat_bytes.mono_l k;intro y0 y1 y2 y3 y4;unfold impl_Cat_bytes.l0
  repeat' first
  | (with_reducible exact ih0 _ _ _ _ _)
  | (with_reducible exact LeO.refl _)
  | (with_reducible exact LeO.none _)
  | (with_reducible refine LeO.ite ?_ ?_)
  | (with_reducible refine LeO.bind ?_ (fun _ => ?_))
  | exact LeO.none _
  | refine LeO.ite ?_ ?_
  | refine LeO.bind ?_ (fun _ => ?_)
theorem impl_Cat_bytes.mono : ∀ a0 a1 a2 k, LeO (impl_Cat_bytes.f k a0 a1 a2) (impl_Cat_bytes.f (k + 1) a0 a1 a2) := by
 intro a0 a1 a2 k;have ih0 := impl_Cat_bytes.mono_l k;unfold impl_Cat_bytes.f
 repeat' first
   | (with_reducible exact ih0 _ _ _ _ _)
   | (with_reducible exact LeO.refl _)
   | (with_reducible exact LeO.none _)
   | (with_reducible refine LeO.ite ?_ ?_)
   | (with_reducible refine LeO.bind ?_ (fun _ => ?_))
   | exact LeO.none _
   | refine LeO.ite ?_ ?_
   | refine LeO.bind ?_ (fun _ => ?_)
set_option maxHeartbeats 8000000 in
set_option maxRecDepth 100000 in
theorem impl_Cat_bytes.calls (k : Nat) (a0_0 : Int) (A0_1 : Option Addr) (c0_1 : Nat) (l0_1 : List (S38)) (a1 : Int) (r : Int) (w : World) (hr0_1 : Kd.C k38 w A0_1 l0_1.length l0_1) (hc0_1 : l0_1.length ≤ c0_1) (h : impl_Cat_bytes.f k a0_0 l0_1 a1 = some r) :
  Calls Try.prog 31 #[.agg #[.int .i64 a0_0, .slice A0_1 l0_1.length c0_1], .int .i64 a1] w fun e w' => e = .returned (.int .i64 r) ∧ Below w.heap.size w w' := by
 have hu25 := Try.underlying25;have hu38 := Try.underlying38;have HR0_1 := Aside0.mk hr0_1;have HC0_1 := Aside0.mk hc0_1;clear hr0_1 hc0_1;have HB := Aside0.mk (Below.refl w.heap.size w);have H : (impl_Cat_bytes.l0 k a1 0 l0_1 (l0_1.length : Int) 0) = some r := h;clear h;have H' := Aside0.mk H;clear H
 go_enter Try.func31, Try.ntmps31
 go_wp2_with (first | ((with_reducible refine gate_dst (N := 2) rfl ?_); refine bv 2 #[.int .i64 a0_0, .slice A0_1 l0_1.length c0_1] 25 ?_; intro gb339 hg w3 hbox hb; have BK339 := Aside0.mk (hbox); have GW339 := gw HB hg; have GE339 := gw HB hg; replace HB := hbb HB hb; clear hb hbox hg; obtain ⟨hcz4_0, hcz4_1, hfz4_0, hfz4_1⟩ := c2 BK339))
 go_loopg [5, 11] k (fun kq v5 v11 w' => ∃ (x5_1 : Int) (x11_1 : Int), v5 = .int .i64 x5_1 ∧ v11 = .int .i64 x11_1 ∧ Aside0 (impl_Cat_bytes.l0 kq a1 x5_1 l0_1 (l0_1.length : Int) x11_1 = some r) ∧ Aside0 (kq ≤ k) ∧ Aside0 (w'.heap[gb339]? = some (.cells #[.int .i64 a0_0, (.slice A0_1 l0_1.length c0_1)] 25 (0, 0))) ∧ Aside0 (Below w.heap.size w w'))
 case atStart => exact ⟨(0), (0), rs, rs, H', ⟨Nat.le_refl _⟩, ⟨bl BK339.out⟩, ⟨by exact bb HB.out⟩⟩
 case round =>
  clear H';try clear p2
  try clear c3
  try clear hcz4_0
  try clear hcz4_1
  try clear hfz4_0
  try clear hfz4_1
  obtain ⟨x5_1, x11_1, rfl, rfl, HA, HK1, BK339, HB⟩ := hrel
  cases gk with
  | zero => exact absurd HA.out (by simp [impl_Cat_bytes.l0])
  | succ k1 =>
   have H := HA.out;clear HA;simp only [impl_Cat_bytes.l0] at H
   by_cases c5 : x11_1 < (l0_1.length : Int)
   ·rw [if_pos c5] at H;have c5b0 : decide (x11_1 < (l0_1.length : Int)) = true := decide_eq_true c5;clear c5
    by_cases c6 : 0 ≤ x11_1
    ·rw [if_pos c6] at H;have c6b0 : decide (0 ≤ x11_1) = true := decide_eq_true c6;clear c6
     by_cases c7 : x11_1 < (l0_1.length : Int)
     ·rw [if_pos c7] at H;have c7b0 : decide (x11_1 < (l0_1.length : Int)) = true := decide_eq_true c7;clear c7
      by_cases c8 : ((rd_T38 l0_1 x11_1).f0) = a1
      ·rw [if_pos c8] at H;have c8b0 : (((rd_T38 l0_1 x11_1).f0) == a1) = true := beq_iff_eq.mpr c8;have c8b1 : (((rd_T38 l0_1 x11_1).f0) != a1) = false := bne_eq_false_iff_eq.mpr c8;clear c8;have H' := Aside0.mk H;clear H;have p340 : 0 ≤ (x11_1 : Int) := of_decide_eq_true am;have q340 : x11_1 < (l0_1.length : Int) := of_decide_eq_true am;obtain ⟨ad340, e340, hx340_0, hx340_1, hx340_2, hx340_3⟩ := at_T38 HR0_1.out x11_1 p340 q340;cases e340;replace hx340_0 := (HB.out.cell (World.block_lt_of_cell? w _ hx340_0)).trans hx340_0;replace hx340_1 := (HB.out.cell (World.block_lt_of_cell? w _ hx340_1)).trans hx340_1;replace hx340_2 := (HB.out.cell (World.block_lt_of_cell? w _ hx340_2)).trans hx340_2;replace hx340_3 := (HB.out.cell (World.block_lt_of_cell? w _ hx340_3)).trans hx340_3;replace p340 := eq_true p340;replace q340 := eq_true q340;go_wp2_with (first | ((with_reducible refine gate_dst (N := 7) rfl ?_); refine bv 7 #[.int .i64 0, .string (⟨#[]⟩ : ByteArray), .int .i64 0, .string (⟨#[]⟩ : ByteArray)] 38 ?_; intro gb341 hg w9 hbox hb; have BK341 := Aside0.mk (hbox); have GW341 := gw HB hg; have GE341 := gw HB hg; have NB339_341 := nl BK339 hg; have NB341_339 := ng BK339 hg; replace BK339 := kb BK339 hb; replace HB := hbb HB hb; clear hb hbox hg; have hnb10 := NB341_339.out; have hnc10 := NB339_341.out; obtain ⟨hcz11_0, hcz11_1, hcz11_2, hcz11_3, hfz11_0, hfz11_1, hfz11_2, hfz11_3⟩ := c4 BK341))
       go_roundg k1
       case measure => have := HK1.out; omega
       case rel => exact ⟨(wrap64 (x5_1 + (((rd_T38 l0_1 x11_1).f3).size : Int))), (wrap64 (x11_1 + 1)), rs, rs, H', ⟨by have := HK1.out; omega⟩, ⟨bx (a := gb341) BK339.out NB339_341.out⟩, ⟨by exact bbx (a := gb341) HB.out GE341.out⟩⟩
      rw [if_neg c8] at H;have c8b0 : (((rd_T38 l0_1 x11_1).f0) == a1) = false := beq_eq_false_iff_ne.mpr c8;have c8b1 : (((rd_T38 l0_1 x11_1).f0) != a1) = true := bne_iff_ne.mpr c8;have H' := Aside0.mk H;clear H;have p340 : 0 ≤ (x11_1 : Int) := of_decide_eq_true am;have q340 : x11_1 < (l0_1.length : Int) := of_decide_eq_true am;obtain ⟨ad340, e340, hx340_0, hx340_1, hx340_2, hx340_3⟩ := at_T38 HR0_1.out x11_1 p340 q340;cases e340;replace hx340_0 := (HB.out.cell (World.block_lt_of_cell? w _ hx340_0)).trans hx340_0;replace hx340_1 := (HB.out.cell (World.block_lt_of_cell? w _ hx340_1)).trans hx340_1;replace hx340_2 := (HB.out.cell (World.block_lt_of_cell? w _ hx340_2)).trans hx340_2;replace hx340_3 := (HB.out.cell (World.block_lt_of_cell? w _ hx340_3)).trans hx340_3;replace p340 := eq_true p340;replace q340 := eq_true q340;go_wp2_with (first | ((with_reducible refine gate_dst (N := 7) rfl ?_); refine bv 7 #[.int .i64 0, .string (⟨#[]⟩ : ByteArray), .int .i64 0, .string (⟨#[]⟩ : ByteArray)] 38 ?_; intro gb341 hg w12 hbox hb; have BK341 := Aside0.mk (hbox); have GW341 := gw HB hg; have GE341 := gw HB hg; have NB339_341 := nl BK339 hg; have NB341_339 := ng BK339 hg; replace BK339 := kb BK339 hb; replace HB := hbb HB hb; clear hb hbox hg; have hnb13 := NB341_339.out; have hnc13 := NB339_341.out; obtain ⟨hcz14_0, hcz14_1, hcz14_2, hcz14_3, hfz14_0, hfz14_1, hfz14_2, hfz14_3⟩ := c4 BK341))
      go_roundg k1
      case measure => have := HK1.out; omega
      case rel => exact ⟨(x5_1), (wrap64 (x11_1 + 1)), rs, rs, H', ⟨by have := HK1.out; omega⟩, ⟨bx (a := gb341) BK339.out NB339_341.out⟩, ⟨by exact bbx (a := gb341) HB.out GE341.out⟩⟩
     rw [if_neg c7] at H;exact absurd H (by simp)
    rw [if_neg c6] at H;exact absurd H (by simp)
   rw [if_neg c5] at H;have c5b0 : decide (x11_1 < (l0_1.length : Int)) = false := decide_eq_false c5;clear c5;obtain rfl := Option.some.inj H;go_wp2;go_ret;exact ⟨by first | rfl | (simp [errW_none, errW_some] <;> rfl) | (simp [*, errW_none, errW_some] <;> rfl), by exact bb HB.out⟩
-- BY HAND: impl_Cat_edition: function 34
def impl_within.f (a0 : Int) (a1 : Int) (a2 : Int) : Option (Bool) := if a0 ≥ a1 then (some (decide (a0 ≤ a2))) else (some false)
set_option maxHeartbeats 8000000 in
set_option maxRecDepth 100000 in
theorem impl_within.calls (a0 : Int) (a1 : Int) (a2 : Int) (r : Bool) (w : World) (h : impl_within.f a0 a1 a2 = some r) :
  Calls Try.prog 35 #[.int .i64 a0, .int .i64 a1, .int .i64 a2] w fun e w' => e = .returned (.bool r) ∧ Drawn0 w w' := by
 have H : (if a0 ≥ a1 then (some (decide (a0 ≤ a2))) else (some false)) = some r := h;clear h
 by_cases c4 : a0 ≥ a1
 ·rw [if_pos c4] at H;have c4b0 : decide (a1 ≤ a0) = true := decide_eq_true c4;clear c4;obtain rfl := Option.some.inj H
  go_enter Try.func35, Try.ntmps35
  go_wp2;go_ret;exact ⟨by first | rfl | (simp; done) | (simp [*]; done), by repeat (first | exact Drawn0.refl _ | apply Drawn0.step)⟩
 rw [if_neg c4] at H;have c4b0 : decide (a1 ≤ a0) = false := decide_eq_false c4;clear c4;obtain rfl := Option.some.inj H
 go_enter Try.func35, Try.ntmps35
 go_wp2;go_ret;exact ⟨by first | rfl | (simp; done) | (simp [*]; done), by repeat (first | exact Drawn0.refl _ | apply Drawn0.step)⟩
def impl_house.f (a0 : Int) : Option (Bool) := (impl_within.f a0 0 1).bind fun t342 => (some t342)
set_option maxHeartbeats 8000000 in
set_option maxRecDepth 100000 in
theorem impl_house.calls (a0 : Int) (r : Bool) (w : World) (h : impl_house.f a0 = some r) :
  Calls Try.prog 46 #[.int .i64 a0] w fun e w' => e = .returned (.bool r) ∧ Drawn0 w w' := by
 have H : ((impl_within.f a0 0 1).bind fun t342 => (some t342)) = some r := h;clear h;replace H := Option.bind_eq_some_iff.mp H;obtain ⟨t342, A20, H⟩ := H;have A2 := Aside0.mk A20;clear A20;obtain rfl := Option.some.inj H
 go_enter Try.func46, Try.ntmps46
 go_wp2_with (first | ((with_reducible refine gate_callee (f := 35) rfl ?_); refine gL 4 Try.func35 #[.int .i64 a0, .int .i64 0, .int .i64 1] ?_; (with_reducible refine (impl_within.calls a0 0 1 t342 _ A2.out).mono ?_); rintro e w' ⟨rfl, ⟨nd, rfl⟩⟩; refine ⟨_, rfl, ?_⟩));go_ret;exact ⟨by first | rfl | (simp; done) | (simp [*]; done), by repeat (first | exact Drawn0.refl _ | apply Drawn0.step)⟩
mutual
def impl_NameOk.l0 : Nat → ByteArray → Int → Int → Option (Bool)
 | 0, _, _, _ => none
 | k + 1, x0, x5, x6 => if x6 < x5 then (if 0 ≤ x6 then (if x6 < (x0.size : Int) then (if (bt x0 x6) < 97 then (impl_NameOk.j1 k x0 x5 x6 true) else (impl_NameOk.j1 k x0 x5 x6 (decide ((bt x0 x6) > 122)))) else (none)) else (none)) else ((impl_within.f (x0.size : Int) 1 6).bind fun t343 => (some t343))
def impl_NameOk.j1 : Nat → ByteArray → Int → Int → Bool → Option (Bool)
 | 0, _, _, _, _ => none
 | k + 1, x0, x5, x6, x18 => if x18 = true then (some false) else (impl_NameOk.l0 k x0 x5 (wrap64 (x6 + 1)))
end
def impl_NameOk.f (k : Nat) (a0 : ByteArray) : Option (Bool) := impl_NameOk.l0 k a0 (a0.size : Int) 0
theorem impl_NameOk.mono_l : ∀ k, (∀ y0 y1 y2, LeO (impl_NameOk.l0 k y0 y1 y2) (impl_NameOk.l0 (k + 1) y0 y1 y2)) ∧ (∀ y0 y1 y2 y3, LeO (impl_NameOk.j1 k y0 y1 y2 y3) (impl_NameOk.j1 (k + 1) y0 y1 y2 y3))
 | 0 => ⟨fun _ _ _ r h => by simp [impl_NameOk.l0] at h, fun _ _ _ _ r h => by simp [impl_NameOk.j1] at h⟩
 | k + 1 => by
  obtain ⟨ih0, ih1⟩ := impl_NameOk.mono_l k;refine ⟨?_, ?_⟩;intro y0 y1 y2; unfold impl_NameOk.l0; rotate_left
  intro y0 y1 y2 y3; unfold impl_NameOk.j1; rotate_left
  all_goals repeat' first
   | (with_reducible exact ih0 _ _ _)
   | (with_reducible exact ih1 _ _ _ _)
   | (with_reducible exact LeO.refl _)
   | (with_reducible exact LeO.none _)
   | (with_reducible refine LeO.ite ?_ ?_)
   | (with_reducible refine LeO.bind ?_ (fun _ => ?_))
   | exact LeO.none _
   | refine LeO.ite ?_ ?_
   | refine LeO.bind ?_ (fun _ => ?_)
theorem impl_NameOk.mono : ∀ a0 k, LeO (impl_NameOk.f k a0) (impl_NameOk.f (k + 1) a0) := by
 intro a0 k;obtain ⟨ih0, ih1⟩ := impl_NameOk.mono_l k;unfold impl_NameOk.f
 repeat' first
   | (with_reducible exact ih0 _ _ _)
   | (with_reducible exact ih1 _ _ _ _)
   | (with_reducible exact LeO.refl _)
   | (with_reducible exact LeO.none _)
   | (with_reducible refine LeO.ite ?_ ?_)
   | (with_reducible refine LeO.bind ?_ (fun _ => ?_))
   | exact LeO.none _
   | refine LeO.ite ?_ ?_
   | refine LeO.bind ?_ (fun _ => ?_)
set_option maxHeartbeats 8000000 in
set_option maxRecDepth 100000 in
theorem impl_NameOk.calls (k : Nat) (a0 : ByteArray) (r : Bool) (w : World) (h : impl_NameOk.f k a0 = some r) :
  Calls Try.prog 47 #[.string a0] w fun e w' => e = .returned (.bool r) ∧ Drawn0 w w' := by
 have H : (impl_NameOk.l0 k a0 (a0.size : Int) 0) = some r := h;clear h;have H' := Aside0.mk H;clear H
 go_enter Try.func47, Try.ntmps47
 go_wp2
 go_loopg [6] k (fun kq v6 w' => ∃ (x6_1 : Int), v6 = .int .i64 x6_1 ∧ Aside0 (impl_NameOk.l0 kq a0 (a0.size : Int) x6_1 = some r) ∧ Aside0 (kq ≤ k) ∧ Drawn0 w w')
 case atStart => exact ⟨(0), rs, H', ⟨Nat.le_refl _⟩, by repeat (first | exact Drawn0.refl _ | apply Drawn0.step)⟩
 case round =>
  clear H';obtain ⟨x6_1, rfl, HA, HK1, ⟨m1, rfl⟩⟩ := hrel
  cases gk with
  | zero => exact absurd HA.out (by simp [impl_NameOk.l0])
  | succ k1 =>
   have H := HA.out;clear HA;simp only [impl_NameOk.l0] at H
   by_cases c2 : x6_1 < (a0.size : Int)
   ·rw [if_pos c2] at H;have c2b0 : decide (x6_1 < (a0.size : Int)) = true := decide_eq_true c2;clear c2;have HC3 := Aside0.mk H;clear H
    go_upto_region 4 with (fail)
    go_cut [18] (fun v18 wc => ∃ (kq : Nat) (x18_2 : Bool), v18 = .bool x18_2 ∧ Aside0 (impl_NameOk.j1 kq a0 (a0.size : Int) x6_1 x18_2 = some r) ∧ Aside0 (kq ≤ k1) ∧ Drawn0 w wc)
    case first =>
     have H := HC3.out;clear HC3
     by_cases c4 : 0 ≤ x6_1
     ·rw [if_pos c4] at H;have c4b0 : decide (0 ≤ x6_1) = true := decide_eq_true c4;clear c4;(first | rw [c4b0] | (simp only [i64_w, i32_w]; rw [c4b0]) | skip)
      by_cases c5 : x6_1 < (a0.size : Int)
      ·rw [if_pos c5] at H;have c5b0 : decide (x6_1 < (a0.size : Int)) = true := decide_eq_true c5;clear c5
       by_cases c7 : (bt a0 x6_1) < 97
       ·rw [if_pos c7] at H;have c7b0 : decide ((bt a0 x6_1) < 97) = true := decide_eq_true c7;clear c7;have H' := Aside0.mk H;clear H;have p6 : 0 ≤ (x6_1 : Int) := of_decide_eq_true am;have q6 : x6_1 < (a0.size : Int) := of_decide_eq_true am;have hx6 := bt_at a0 x6_1;replace p6 := eq_true p6;replace q6 := eq_true q6;go_wp2
        go_meet
        case rel => exact ⟨_, (true), rs, H', ⟨by have := HK1.out; first | omega | exact Nat.le_refl _⟩, by repeat (first | exact Drawn0.refl _ | apply Drawn0.step)⟩
       rw [if_neg c7] at H;have c7b0 : decide ((bt a0 x6_1) < 97) = false := decide_eq_false c7;clear c7;have H' := Aside0.mk H;clear H;have p6 : 0 ≤ (x6_1 : Int) := of_decide_eq_true am;have q6 : x6_1 < (a0.size : Int) := of_decide_eq_true am;have hx6 := bt_at a0 x6_1;replace p6 := eq_true p6;replace q6 := eq_true q6;have p8 : 0 ≤ (x6_1 : Int) := of_decide_eq_true am;have q8 : x6_1 < (a0.size : Int) := of_decide_eq_true am;have hx8 := bt_at a0 x6_1;replace p8 := eq_true p8;replace q8 := eq_true q8;go_wp2
       go_meet
       case rel => exact ⟨_, (decide ((bt a0 x6_1) > 122)), rs, H', ⟨by have := HK1.out; first | omega | exact Nat.le_refl _⟩, by repeat (first | exact Drawn0.refl _ | apply Drawn0.step)⟩
      rw [if_neg c5] at H;exact absurd H (by simp)
     rw [if_neg c4] at H;exact absurd H (by simp)
    case rest =>
     clear HC3;(try clear c2);(try clear c2b0);(try clear p2);(try clear c4);(try clear c4b0);(try clear c5);(try clear c5b0);(try clear p6);(try clear q6);(try clear hx6);(try clear c7);(try clear c7b0);(try clear p8);(try clear q8);(try clear hx8);(try clear p6);(try clear p8);(try clear q6);(try clear q8);obtain ⟨kq, x18_2, rfl, HA, HJ2, ⟨mc2, rfl⟩⟩ := hcut
     cases kq with
     | zero => exact absurd HA.out (by simp [impl_NameOk.j1])
     | succ kj2 =>
      have H := HA.out;clear HA;simp only [impl_NameOk.j1] at H
      by_cases c9 : x18_2 = true
      ·subst c9;rw [if_pos rfl] at H;obtain rfl := Option.some.inj H;go_wp2;go_ret;exact ⟨by first | rfl | (simp; done) | (simp [*]; done), by repeat (first | exact Drawn0.refl _ | apply Drawn0.step)⟩
      replace c9 := Bool.eq_false_iff.mpr c9;subst c9;rw [if_neg (show ¬ (false = true) by decide)] at H;have H' := Aside0.mk H;clear H;go_wp2
      go_roundg kj2
      case measure => have := HK1.out; have := HJ2.out; omega
      case rel => exact ⟨(wrap64 (x6_1 + 1)), rs, H', ⟨by have := HK1.out; have := HJ2.out; omega⟩, by repeat (first | exact Drawn0.refl _ | apply Drawn0.step)⟩
   ·rw [if_neg c2] at H;have c2b0 : decide (x6_1 < (a0.size : Int)) = false := decide_eq_false c2;clear c2;replace H := Option.bind_eq_some_iff.mp H;obtain ⟨t343, A100, H⟩ := H;have A10 := Aside0.mk A100;clear A100;obtain rfl := Option.some.inj H;go_wp2_with (first | ((with_reducible refine gate_callee (f := 35) rfl ?_); refine gL 22 Try.func35 #[.int .i64 (a0.size : Int), .int .i64 1, .int .i64 6] ?_; (with_reducible refine (impl_within.calls (a0.size : Int) 1 6 t343 _ A10.out).mono ?_); rintro e w' ⟨rfl, ⟨nd, rfl⟩⟩; refine ⟨_, rfl, ?_⟩));go_ret;exact ⟨by first | rfl | (simp; done) | (simp [*]; done), by repeat (first | exact Drawn0.refl _ | apply Drawn0.step)⟩
def impl_publishable.j0 : Nat → Bool → Option (Bool)
 | 0, _ => none
 | k + 1, x6 => some x6
def impl_publishable.f (k : Nat) (a0 : Int) (a1 : ByteArray) (a2 : ByteArray) : Option (Bool) := (impl_house.f a0).bind fun t344 => (if t344 = true then ((impl_NameOk.f k a1).bind fun t345 => (if t345 = true then ((impl_within.f (a2.size : Int) 1 300).bind fun t346 => (impl_publishable.j0 k t346)) else (impl_publishable.j0 k false))) else (impl_publishable.j0 k false))
theorem impl_publishable.mono_l : ∀ k, (∀ y0, LeO (impl_publishable.j0 k y0) (impl_publishable.j0 (k + 1) y0))
 | 0 => fun _ r h => by simp [impl_publishable.j0] at h
 | k + 1 => by
  have ih0 := impl_publishable.mono_l k;intro y0;unfold impl_publishable.j0
  repeat' first
  | (with_reducible exact ih0 _)
  | (with_reducible exact impl_NameOk.mono _ _)
  | (with_reducible exact LeO.refl _)
  | (with_reducible exact LeO.none _)
  | (with_reducible refine LeO.ite ?_ ?_)
  | (with_reducible refine LeO.bind ?_ (fun _ => ?_))
  | exact LeO.none _
  | refine LeO.ite ?_ ?_
  | refine LeO.bind ?_ (fun _ => ?_)
theorem impl_publishable.mono : ∀ a0 a1 a2 k, LeO (impl_publishable.f k a0 a1 a2) (impl_publishable.f (k + 1) a0 a1 a2) := by
 intro a0 a1 a2 k;have ih0 := impl_publishable.mono_l k;unfold impl_publishable.f
 repeat' first
   | (with_reducible exact ih0 _)
   | (with_reducible exact impl_NameOk.mono _ _)
   | (with_reducible exact LeO.refl _)
   | (with_reducible exact LeO.none _)
   | (with_reducible refine LeO.ite ?_ ?_)
   | (with_reducible refine LeO.bind ?_ (fun _ => ?_))
   | exact LeO.none _
   | refine LeO.ite ?_ ?_
   | refine LeO.bind ?_ (fun _ => ?_)
set_option maxHeartbeats 8000000 in
set_option maxRecDepth 100000 in
theorem impl_publishable.calls (k : Nat) (a0 : Int) (a1 : ByteArray) (a2 : ByteArray) (r : Bool) (w : World) (h : impl_publishable.f k a0 a1 a2 = some r) :
  Calls Try.prog 36 #[.int .i64 a0, .string a1, .string a2] w fun e w' => e = .returned (.bool r) ∧ Drawn0 w w' := by
 have H : ((impl_house.f a0).bind fun t344 => (if t344 = true then ((impl_NameOk.f k a1).bind fun t345 => (if t345 = true then ((impl_within.f (a2.size : Int) 1 300).bind fun t346 => (impl_publishable.j0 k t346)) else (impl_publishable.j0 k false))) else (impl_publishable.j0 k false))) = some r := h;clear h;have HC4 := Aside0.mk H;clear H
 go_enter Try.func36, Try.ntmps36
 go_upto_region 1 with (fail)
 go_cut [6] (fun v6 wc => ∃ (kq : Nat) (x6_3 : Bool), v6 = .bool x6_3 ∧ Aside0 (impl_publishable.j0 kq x6_3 = some r) ∧ Aside0 (kq ≤ k) ∧ Drawn0 w wc)
 case first =>
  have H := HC4.out;clear HC4;replace H := Option.bind_eq_some_iff.mp H;obtain ⟨t344, A50, H⟩ := H;have A5 := Aside0.mk A50;clear A50
  by_cases c6 : t344 = true
  ·subst c6;rw [if_pos rfl] at H;replace H := Option.bind_eq_some_iff.mp H;obtain ⟨t345, A70, H⟩ := H;have A7 := Aside0.mk A70;clear A70
   by_cases c8 : t345 = true
   ·subst c8;rw [if_pos rfl] at H;replace H := Option.bind_eq_some_iff.mp H;obtain ⟨t346, A90, H⟩ := H;have A9 := Aside0.mk A90;clear A90;have H' := Aside0.mk H;clear H;go_wp2_with (first | ((with_reducible refine gate_callee (f := 46) rfl ?_); refine gL 8 Try.func46 #[.int .i64 a0] ?_; (with_reducible refine (impl_house.calls a0 true _ A5.out).mono ?_); rintro e w' ⟨rfl, ⟨nd, rfl⟩⟩; refine ⟨_, rfl, ?_⟩) | (go_at_call 47; (with_reducible refine (impl_NameOk.calls k a1 true _ A7.out).mono ?_); rintro e w' ⟨rfl, ⟨nd, rfl⟩⟩) | (go_at_call 35; (with_reducible refine (impl_within.calls (a2.size : Int) 1 300 t346 _ A9.out).mono ?_); rintro e w' ⟨rfl, ⟨nd, rfl⟩⟩))
    go_meet
    case rel => exact ⟨_, (t346), rs, H', ⟨by first | omega | exact Nat.le_refl _⟩, by repeat (first | exact Drawn0.refl _ | apply Drawn0.step)⟩
   replace c8 := Bool.eq_false_iff.mpr c8;subst c8;rw [if_neg (show ¬ (false = true) by decide)] at H;have H' := Aside0.mk H;clear H;go_wp2_with (first | ((with_reducible refine gate_callee (f := 46) rfl ?_); refine gL 8 Try.func46 #[.int .i64 a0] ?_; (with_reducible refine (impl_house.calls a0 true _ A5.out).mono ?_); rintro e w' ⟨rfl, ⟨nd, rfl⟩⟩; refine ⟨_, rfl, ?_⟩) | (go_at_call 47; (with_reducible refine (impl_NameOk.calls k a1 false _ A7.out).mono ?_); rintro e w' ⟨rfl, ⟨nd, rfl⟩⟩))
   go_meet
   case rel => exact ⟨_, (false), rs, H', ⟨by first | omega | exact Nat.le_refl _⟩, by repeat (first | exact Drawn0.refl _ | apply Drawn0.step)⟩
  replace c6 := Bool.eq_false_iff.mpr c6;subst c6;rw [if_neg (show ¬ (false = true) by decide)] at H;have H' := Aside0.mk H;clear H;go_wp2_with (first | ((with_reducible refine gate_callee (f := 46) rfl ?_); refine gL 8 Try.func46 #[.int .i64 a0] ?_; (with_reducible refine (impl_house.calls a0 false _ A5.out).mono ?_); rintro e w' ⟨rfl, ⟨nd, rfl⟩⟩; refine ⟨_, rfl, ?_⟩))
  go_meet
  case rel => exact ⟨_, (false), rs, H', ⟨by first | omega | exact Nat.le_refl _⟩, by repeat (first | exact Drawn0.refl _ | apply Drawn0.step)⟩
 case rest =>
  clear HC4;try clear p2
  try clear c3
  try clear c4
  try clear c6
  try clear c8
  obtain ⟨kq, x6_3, rfl, HA, HJ3, ⟨mc3, rfl⟩⟩ := hcut
  cases kq with
  | zero => exact absurd HA.out (by simp [impl_publishable.j0])
  | succ kj3 =>
   have H := HA.out;clear HA;simp only [impl_publishable.j0] at H;obtain rfl := Option.some.inj H;go_wp2;go_ret;exact ⟨by first | rfl | (simp; done) | (simp [*]; done), by repeat (first | exact Drawn0.refl _ | apply Drawn0.step)⟩
def cmp_Or_int.l0 : Nat → Int → List Int → Int → Int → Option (Int)
 | 0, _, _, _, _ => none
 | k + 1, x3, x6, x7, x8 => if x8 < x7 then (if 0 ≤ x8 then (if x8 < (x6.length : Int) then (if (rd x6 x8) = x3 then (cmp_Or_int.l0 k x3 x6 x7 (wrap64 (x8 + 1))) else (some (rd x6 x8))) else (none)) else (none)) else (some x3)
def cmp_Or_int.f (k : Nat) (l0 : List Int) : Option (Int) := cmp_Or_int.l0 k 0 l0 (l0.length : Int) 0
theorem cmp_Or_int.mono_l : ∀ k, (∀ y0 y1 y2 y3, LeO (cmp_Or_int.l0 k y0 y1 y2 y3) (cmp_Or_int.l0 (k + 1) y0 y1 y2 y3))
 | 0 => fun _ _ _ _ r h => by simp [cmp_Or_int.l0] at h
 | k + 1 => by
  have ih0 := cmp_Or_int.mono_l k;intro y0 y1 y2 y3;unfold cmp_Or_int.l0
  repeat' first
  | (with_reducible exact ih0 _ _ _ _)
  | (with_reducible exact LeO.refl _)
  | (with_reducible exact LeO.none _)
  | (with_reducible refine LeO.ite ?_ ?_)
  | (with_reducible refine LeO.bind ?_ (fun _ => ?_))
  | exact LeO.none _
  | refine LeO.ite ?_ ?_
  | refine LeO.bind ?_ (fun _ => ?_)
theorem cmp_Or_int.mono : ∀ a0 k, LeO (cmp_Or_int.f k a0) (cmp_Or_int.f (k + 1) a0) := by
 intro a0 k;have ih0 := cmp_Or_int.mono_l k;unfold cmp_Or_int.f
 repeat' first
   | (with_reducible exact ih0 _ _ _ _)
   | (with_reducible exact LeO.refl _)
   | (with_reducible exact LeO.none _)
   | (with_reducible refine LeO.ite ?_ ?_)
   | (with_reducible refine LeO.bind ?_ (fun _ => ?_))
   | exact LeO.none _
   | refine LeO.ite ?_ ?_
   | refine LeO.bind ?_ (fun _ => ?_)
set_option maxHeartbeats 8000000 in
set_option maxRecDepth 100000 in
theorem cmp_Or_int.calls (k : Nat) (A0 : Option Addr) (c0 : Nat) (l0 : List Int) (r : Int) (w : World) (hr0 : Kd.C (Kd.int .i64) w A0 l0.length l0) (hc0 : l0.length ≤ c0) (h : cmp_Or_int.f k l0 = some r) :
  Calls Try.prog 48 #[.slice A0 l0.length c0] w fun e w' => e = .returned (.int .i64 r) ∧ Drawn0 w w' := by
 have HR0 := Aside0.mk hr0;have HC0 := Aside0.mk hc0;clear hr0 hc0;have H : (cmp_Or_int.l0 k 0 l0 (l0.length : Int) 0) = some r := h;clear h;have H' := Aside0.mk H;clear H
 go_enter Try.func48, Try.ntmps48
 go_wp2
 go_loopg [8] k (fun kq v8 w' => ∃ (x8_1 : Int), v8 = .int .i64 x8_1 ∧ Aside0 (cmp_Or_int.l0 kq 0 l0 (l0.length : Int) x8_1 = some r) ∧ Aside0 (kq ≤ k) ∧ Drawn0 w w')
 case atStart => exact ⟨(0), rs, H', ⟨Nat.le_refl _⟩, by repeat (first | exact Drawn0.refl _ | apply Drawn0.step)⟩
 case round =>
  clear H';obtain ⟨x8_1, rfl, HA, HK1, ⟨m1, rfl⟩⟩ := hrel
  cases gk with
  | zero => exact absurd HA.out (by simp [cmp_Or_int.l0])
  | succ k1 =>
   have H := HA.out;clear HA;simp only [cmp_Or_int.l0] at H
   by_cases c2 : x8_1 < (l0.length : Int)
   ·rw [if_pos c2] at H;have c2b0 : decide (x8_1 < (l0.length : Int)) = true := decide_eq_true c2;clear c2
    by_cases c3 : 0 ≤ x8_1
    ·rw [if_pos c3] at H;have c3b0 : decide (0 ≤ x8_1) = true := decide_eq_true c3;clear c3
     by_cases c4 : x8_1 < (l0.length : Int)
     ·rw [if_pos c4] at H;have c4b0 : decide (x8_1 < (l0.length : Int)) = true := decide_eq_true c4;clear c4
      by_cases c5 : (rd l0 x8_1) = 0
      ·rw [if_pos c5] at H;have c5b0 : ((rd l0 x8_1) == 0) = true := beq_iff_eq.mpr c5;have c5b1 : ((rd l0 x8_1) != 0) = false := bne_eq_false_iff_eq.mpr c5;clear c5;have H' := Aside0.mk H;clear H;have p347 : 0 ≤ (x8_1 : Int) := of_decide_eq_true am;have q347 : x8_1 < (l0.length : Int) := of_decide_eq_true am;obtain ⟨ad347, e347, hx347_0⟩ := Kd.at_int HR0.out x8_1 p347 q347;cases e347;replace p347 := eq_true p347;replace q347 := eq_true q347;go_wp2
       go_roundg k1
       case measure => have := HK1.out; omega
       case rel => exact ⟨(wrap64 (x8_1 + 1)), rs, H', ⟨by have := HK1.out; omega⟩, by repeat (first | exact Drawn0.refl _ | apply Drawn0.step)⟩
      rw [if_neg c5] at H;have c5b0 : ((rd l0 x8_1) == 0) = false := beq_eq_false_iff_ne.mpr c5;have c5b1 : ((rd l0 x8_1) != 0) = true := bne_iff_ne.mpr c5;obtain rfl := Option.some.inj H;have p347 : 0 ≤ (x8_1 : Int) := of_decide_eq_true am;have q347 : x8_1 < (l0.length : Int) := of_decide_eq_true am;obtain ⟨ad347, e347, hx347_0⟩ := Kd.at_int HR0.out x8_1 p347 q347;cases e347;replace p347 := eq_true p347;replace q347 := eq_true q347;go_wp2;go_ret;exact ⟨by first | rfl | (simp; done) | (simp [*]; done), by repeat (first | exact Drawn0.refl _ | apply Drawn0.step)⟩
     rw [if_neg c4] at H;exact absurd H (by simp)
    rw [if_neg c3] at H;exact absurd H (by simp)
   rw [if_neg c2] at H;have c2b0 : decide (x8_1 < (l0.length : Int)) = false := decide_eq_false c2;clear c2;obtain rfl := Option.some.inj H;go_wp2;go_ret;exact ⟨by first | rfl | (simp; done) | (simp [*]; done), by repeat (first | exact Drawn0.refl _ | apply Drawn0.step)⟩
def cmp_isNaN_int.f (a0 : Int) : Option (Bool) := some (a0 != a0)
set_option maxHeartbeats 8000000 in
set_option maxRecDepth 100000 in
theorem cmp_isNaN_int.calls (a0 : Int) (r : Bool) (w : World) (h : cmp_isNaN_int.f a0 = some r) :
  Calls Try.prog 54 #[.int .i64 a0] w fun e w' => e = .returned (.bool r) ∧ Drawn0 w w' := by
 have H : (some (a0 != a0)) = some r := h;clear h;obtain rfl := Option.some.inj H
 go_enter Try.func54, Try.ntmps54
 go_wp2;go_ret;exact ⟨by first | rfl | (simp; done) | (simp [*]; done), by repeat (first | exact Drawn0.refl _ | apply Drawn0.step)⟩
def cmp_Compare_int.f (a0 : Int) (a1 : Int) : Option (Int) := (cmp_isNaN_int.f a0).bind fun t348 => ((cmp_isNaN_int.f a1).bind fun t349 => (if t348 = true then (if t349 = true then (some 0) else (some (-1))) else (if t349 = true then (some 1) else (if a0 < a1 then (some (-1)) else (if a0 > a1 then (some 1) else (some 0))))))
set_option maxHeartbeats 8000000 in
set_option maxRecDepth 100000 in
theorem cmp_Compare_int.calls (a0 : Int) (a1 : Int) (r : Int) (w : World) (h : cmp_Compare_int.f a0 a1 = some r) :
  Calls Try.prog 49 #[.int .i64 a0, .int .i64 a1] w fun e w' => e = .returned (.int .i64 r) ∧ Drawn0 w w' := by
 have H : ((cmp_isNaN_int.f a0).bind fun t348 => ((cmp_isNaN_int.f a1).bind fun t349 => (if t348 = true then (if t349 = true then (some 0) else (some (-1))) else (if t349 = true then (some 1) else (if a0 < a1 then (some (-1)) else (if a0 > a1 then (some 1) else (some 0))))))) = some r := h;clear h;replace H := Option.bind_eq_some_iff.mp H;obtain ⟨t348, A30, H⟩ := H;have A3 := Aside0.mk A30;clear A30;replace H := Option.bind_eq_some_iff.mp H;obtain ⟨t349, A40, H⟩ := H;have A4 := Aside0.mk A40;clear A40
 by_cases c5 : t348 = true
 ·subst c5;rw [if_pos rfl] at H
  by_cases c6 : t349 = true
  ·subst c6;rw [if_pos rfl] at H;obtain rfl := Option.some.inj H
   go_enter Try.func49, Try.ntmps49
   go_wp2_with (first | ((with_reducible refine gate_callee (f := 54) rfl ?_); refine gL 8 Try.func54 #[.int .i64 a0] ?_; (with_reducible refine (cmp_isNaN_int.calls a0 true _ A3.out).mono ?_); rintro e w' ⟨rfl, ⟨nd, rfl⟩⟩; refine ⟨_, rfl, ?_⟩) | ((with_reducible refine gate_callee (f := 54) rfl ?_); refine gL 10 Try.func54 #[.int .i64 a1] ?_; (with_reducible refine (cmp_isNaN_int.calls a1 true _ A4.out).mono ?_); rintro e w' ⟨rfl, ⟨nd, rfl⟩⟩; refine ⟨_, rfl, ?_⟩));go_ret;exact ⟨by first | rfl | (simp; done) | (simp [*]; done), by repeat (first | exact Drawn0.refl _ | apply Drawn0.step)⟩
  replace c6 := Bool.eq_false_iff.mpr c6;subst c6;rw [if_neg (show ¬ (false = true) by decide)] at H;obtain rfl := Option.some.inj H
  go_enter Try.func49, Try.ntmps49
  go_wp2_with (first | ((with_reducible refine gate_callee (f := 54) rfl ?_); refine gL 8 Try.func54 #[.int .i64 a0] ?_; (with_reducible refine (cmp_isNaN_int.calls a0 true _ A3.out).mono ?_); rintro e w' ⟨rfl, ⟨nd, rfl⟩⟩; refine ⟨_, rfl, ?_⟩) | ((with_reducible refine gate_callee (f := 54) rfl ?_); refine gL 10 Try.func54 #[.int .i64 a1] ?_; (with_reducible refine (cmp_isNaN_int.calls a1 false _ A4.out).mono ?_); rintro e w' ⟨rfl, ⟨nd, rfl⟩⟩; refine ⟨_, rfl, ?_⟩));go_ret;exact ⟨by first | rfl | (simp; done) | (simp [*]; done), by repeat (first | exact Drawn0.refl _ | apply Drawn0.step)⟩
 replace c5 := Bool.eq_false_iff.mpr c5;subst c5;rw [if_neg (show ¬ (false = true) by decide)] at H
 by_cases c7 : t349 = true
 ·subst c7;rw [if_pos rfl] at H;obtain rfl := Option.some.inj H
  go_enter Try.func49, Try.ntmps49
  go_wp2_with (first | ((with_reducible refine gate_callee (f := 54) rfl ?_); refine gL 8 Try.func54 #[.int .i64 a0] ?_; (with_reducible refine (cmp_isNaN_int.calls a0 false _ A3.out).mono ?_); rintro e w' ⟨rfl, ⟨nd, rfl⟩⟩; refine ⟨_, rfl, ?_⟩) | ((with_reducible refine gate_callee (f := 54) rfl ?_); refine gL 10 Try.func54 #[.int .i64 a1] ?_; (with_reducible refine (cmp_isNaN_int.calls a1 true _ A4.out).mono ?_); rintro e w' ⟨rfl, ⟨nd, rfl⟩⟩; refine ⟨_, rfl, ?_⟩));go_ret;exact ⟨by first | rfl | (simp; done) | (simp [*]; done), by repeat (first | exact Drawn0.refl _ | apply Drawn0.step)⟩
 replace c7 := Bool.eq_false_iff.mpr c7;subst c7;rw [if_neg (show ¬ (false = true) by decide)] at H
 by_cases c8 : a0 < a1
 ·rw [if_pos c8] at H;have c8b0 : decide (a0 < a1) = true := decide_eq_true c8;clear c8;obtain rfl := Option.some.inj H
  go_enter Try.func49, Try.ntmps49
  go_wp2_with (first | ((with_reducible refine gate_callee (f := 54) rfl ?_); refine gL 8 Try.func54 #[.int .i64 a0] ?_; (with_reducible refine (cmp_isNaN_int.calls a0 false _ A3.out).mono ?_); rintro e w' ⟨rfl, ⟨nd, rfl⟩⟩; refine ⟨_, rfl, ?_⟩) | ((with_reducible refine gate_callee (f := 54) rfl ?_); refine gL 10 Try.func54 #[.int .i64 a1] ?_; (with_reducible refine (cmp_isNaN_int.calls a1 false _ A4.out).mono ?_); rintro e w' ⟨rfl, ⟨nd, rfl⟩⟩; refine ⟨_, rfl, ?_⟩));go_ret;exact ⟨by first | rfl | (simp; done) | (simp [*]; done), by repeat (first | exact Drawn0.refl _ | apply Drawn0.step)⟩
 rw [if_neg c8] at H;have c8b0 : decide (a0 < a1) = false := decide_eq_false c8;clear c8
 by_cases c9 : a0 > a1
 ·rw [if_pos c9] at H;have c9b0 : decide (a1 < a0) = true := decide_eq_true c9;clear c9;obtain rfl := Option.some.inj H
  go_enter Try.func49, Try.ntmps49
  go_wp2_with (first | ((with_reducible refine gate_callee (f := 54) rfl ?_); refine gL 8 Try.func54 #[.int .i64 a0] ?_; (with_reducible refine (cmp_isNaN_int.calls a0 false _ A3.out).mono ?_); rintro e w' ⟨rfl, ⟨nd, rfl⟩⟩; refine ⟨_, rfl, ?_⟩) | ((with_reducible refine gate_callee (f := 54) rfl ?_); refine gL 10 Try.func54 #[.int .i64 a1] ?_; (with_reducible refine (cmp_isNaN_int.calls a1 false _ A4.out).mono ?_); rintro e w' ⟨rfl, ⟨nd, rfl⟩⟩; refine ⟨_, rfl, ?_⟩));go_ret;exact ⟨by first | rfl | (simp; done) | (simp [*]; done), by repeat (first | exact Drawn0.refl _ | apply Drawn0.step)⟩
 rw [if_neg c9] at H;have c9b0 : decide (a1 < a0) = false := decide_eq_false c9;clear c9;obtain rfl := Option.some.inj H
 go_enter Try.func49, Try.ntmps49
 go_wp2_with (first | ((with_reducible refine gate_callee (f := 54) rfl ?_); refine gL 8 Try.func54 #[.int .i64 a0] ?_; (with_reducible refine (cmp_isNaN_int.calls a0 false _ A3.out).mono ?_); rintro e w' ⟨rfl, ⟨nd, rfl⟩⟩; refine ⟨_, rfl, ?_⟩) | ((with_reducible refine gate_callee (f := 54) rfl ?_); refine gL 10 Try.func54 #[.int .i64 a1] ?_; (with_reducible refine (cmp_isNaN_int.calls a1 false _ A4.out).mono ?_); rintro e w' ⟨rfl, ⟨nd, rfl⟩⟩; refine ⟨_, rfl, ?_⟩));go_ret;exact ⟨by first | rfl | (simp; done) | (simp [*]; done), by repeat (first | exact Drawn0.refl _ | apply Drawn0.step)⟩
-- BY HAND: cmp_Compare_string: function 50
def impl_itemOrder.f (k : Nat) (a0_0 : Int) (a0_1 : ByteArray) (a0_2 : Int) (a0_3 : ByteArray) (a1_0 : Int) (a1_1 : ByteArray) (a1_2 : Int) (a1_3 : ByteArray) : Option (Int) := (cmp_Compare_int.f a0_0 a1_0).bind fun t352 => ((cmp_Compare_string.f a0_1 a1_1).bind fun t353 => ((cmp_Or_int.f k (([t352, t353] : List Int))).bind fun t357 => (some t357)))
theorem impl_itemOrder.mono : ∀ a0 a1 a2 a3 a4 a5 a6 a7 k, LeO (impl_itemOrder.f k a0 a1 a2 a3 a4 a5 a6 a7) (impl_itemOrder.f (k + 1) a0 a1 a2 a3 a4 a5 a6 a7) := by
 intro a0 a1 a2 a3 a4 a5 a6 a7 k;unfold impl_itemOrder.f
 repeat' first
   | (with_reducible exact cmp_Or_int.mono _ _)
   | (with_reducible exact LeO.refl _)
   | (with_reducible exact LeO.none _)
   | (with_reducible refine LeO.ite ?_ ?_)
   | (with_reducible refine LeO.bind ?_ (fun _ => ?_))
   | exact LeO.none _
   | refine LeO.ite ?_ ?_
   | refine LeO.bind ?_ (fun _ => ?_)
def impl_itemOrder.T1 : Bool × List (List Nat × List Nat) := (true, [([], []), ([0], [0]), ([], []), ([2], [2]), ([1, 3], [1, 3]), ([], []), ([5], [5]), ([], []), ([7], [7]), ([6, 8, 4], [6, 8]), ([4, 9], [4, 9]), ([10, 9], [10]), ([11, 11, 0, 1, 2, 3, 4, 5, 6, 7, 8, 9, 10, 11], [11])])
def impl_itemOrder.B1 : List Nat := [0, 1, 0, 4, 15, 0, 32, 0, 128, 511, 1023, 2047, 4095]
theorem impl_itemOrder.tab1 : rtab .any (opsOf Try.f37 1) = impl_itemOrder.T1 := by kernel_rfl
theorem impl_itemOrder.bits1 : waitsOk impl_itemOrder.T1.2 impl_itemOrder.B1 = true := by kernel_rfl
set_option maxHeartbeats 8000000 in
set_option maxRecDepth 100000 in
theorem impl_itemOrder.calls (k : Nat) (a0_0 : Int) (a0_1 : ByteArray) (a0_2 : Int) (a0_3 : ByteArray) (a1_0 : Int) (a1_1 : ByteArray) (a1_2 : Int) (a1_3 : ByteArray) (r : Int) (w : World) (h : impl_itemOrder.f k a0_0 a0_1 a0_2 a0_3 a1_0 a1_1 a1_2 a1_3 = some r) :
  Calls Try.prog 37 #[.agg #[.int .i64 a0_0, .string a0_1, .int .i64 a0_2, .string a0_3], .agg #[.int .i64 a1_0, .string a1_1, .int .i64 a1_2, .string a1_3]] w fun e w' => e = .returned (.int .i64 r) ∧ Below w.heap.size w w' := by
 have hu38 := Try.underlying38;have HB := Aside0.mk (Below.refl w.heap.size w);have H : ((cmp_Compare_int.f a0_0 a1_0).bind fun t352 => ((cmp_Compare_string.f a0_1 a1_1).bind fun t353 => ((cmp_Or_int.f k (([t352, t353] : List Int))).bind fun t357 => (some t357)))) = some r := h;clear h;replace H := Option.bind_eq_some_iff.mp H;obtain ⟨t352, A30, H⟩ := H;have A3 := Aside0.mk A30;clear A30;replace H := Option.bind_eq_some_iff.mp H;obtain ⟨t353, A40, H⟩ := H;have A4 := Aside0.mk A40;clear A40;obtain ⟨y354, hy354⟩ : ∃ y_ : List Int, y_ = (([t352, t353] : List Int)) := ⟨_, rfl⟩;replace H : ((cmp_Or_int.f k y354).bind fun t357 => (some t357)) = some r := by first | (rw [hy354]; with_reducible exact H) | (have H2_ := (Option.bind_some _ _).symm.trans H; rw [hy354]; with_reducible exact H2_) | (have H2_ := (Option.bind_some _ _).symm.trans H; with_reducible exact H2_) | with_reducible exact H | (rw [hy354]; exact H) | exact H
 have Ny354 := Aside0.mk hy354;clear hy354;replace H := Option.bind_eq_some_iff.mp H;obtain ⟨t357, A50, H⟩ := H;have A5 := Aside0.mk A50;clear A50;obtain rfl := Option.some.inj H
 go_enter Try.func37, Try.ntmps37
 try go_wp2_with (first | ((with_reducible refine gate_dst (N := 2) rfl ?_); refine bv 2 #[.int .i64 a0_0, .string a0_1, .int .i64 a0_2, .string a0_3] 38 ?_; intro gb350 hg w6 hbox hb; have BK350 := Aside0.mk (hbox); have GW350 := gw HB hg; have GE350 := gw HB hg; replace HB := hbb HB hb; clear hb hbox hg) | ((with_reducible refine gate_dst (N := 3) rfl ?_); refine bv 3 #[.int .i64 a1_0, .string a1_1, .int .i64 a1_2, .string a1_3] 38 ?_; intro gb351 hg w7 hbox hb; have BK351 := Aside0.mk (hbox); have GW351 := gw HB hg; have GE351 := gw HB hg; have NB350_351 := nl BK350 hg; have NB351_350 := ng BK350 hg; replace BK350 := kb BK350 hb; replace HB := hbb HB hb; clear hb hbox hg))
 replace BK350 := Aside0.mk (blk_drew BK350.out);replace BK351 := Aside0.mk (blk_drew BK351.out);replace HB := Aside0.mk (below_drew1 HB.out);refine start_ (n := 13) (S := fun w' => w'.cell? ⟨gb350, 0, none⟩ = some (.int .i64 a0_0) ∧ w'.cell? ⟨gb350, 1, none⟩ = some (.string a0_1) ∧ w'.cell? ⟨gb350, 2, none⟩ = some (.int .i64 a0_2) ∧ w'.cell? ⟨gb350, 3, none⟩ = some (.string a0_3) ∧ w'.cell? ⟨gb351, 0, none⟩ = some (.int .i64 a1_0) ∧ w'.cell? ⟨gb351, 1, none⟩ = some (.string a1_1) ∧ w'.cell? ⟨gb351, 2, none⟩ = some (.int .i64 a1_2) ∧ w'.cell? ⟨gb351, 3, none⟩ = some (.string a1_3)) (ds := []) (bm 13 0) (by kernel_rfl) rfl rfl ⟨bc BK350 0, bc BK350 1, bc BK350 2, bc BK350 3, bc BK351 0, bc BK351 1, bc BK351 2, bc BK351 3⟩ (fun hHeld => ?_); refine with_tabW impl_itemOrder.tab1 impl_itemOrder.bits1 (fun HT_ HW_ => ?_)
 generalize w7.drew = w8 at BK350 BK351 HB hHeld ⊢;refine pu HT_ 0 5 (bm 13 1) ?_;refine pu HT_ 2 7 (bm 13 5) ?_;refine pu HT_ 5 10 (bm 13 37) ?_;refine pu HT_ 7 12 (bm 13 165) ?_;refine tk HT_ HW_ 1 6 (bm 13 167) hHeld ?_;refine tk HT_ HW_ 3 8 (bm 13 175) hHeld ?_;refine tk HT_ HW_ 6 11 (bm 13 239) hHeld ?_;refine tk HT_ HW_ 8 13 (bm 13 495) hHeld ?_;refine on HT_ 4 9 (bm 13 511) (fun K hK => ?_);refine gR Try.func49 #[.int .i64 a0_0, .int .i64 a1_0] ?_
 with_reducible refine (cmp_Compare_int.calls a0_0 a1_0 t352 _ A3.out).mono ?_
 rintro e w' ⟨rfl, ⟨nd, rfl⟩⟩;refine ⟨_, rfl, ?_⟩;refine hK.out _ _ ⟨bc BK350 0, bc BK350 1, bc BK350 2, bc BK350 3, bc BK351 0, bc BK351 1, bc BK351 2, bc BK351 3⟩ (fun hHeld => ?_);clear hK K;refine nm 9 ?_;refine on HT_ 9 14 (bm 13 1023) (fun K hK => ?_);refine gR Try.func50 #[.string a0_1, .string a1_1] ?_
 with_reducible refine (cmp_Compare_string.calls a0_1 a1_1 t353 _ A4.out).mono ?_
 rintro e w' ⟨rfl, ⟨nd, rfl⟩⟩;refine ⟨_, rfl, ?_⟩;refine hK.out _ _ ⟨bc BK350 0, bc BK350 1, bc BK350 2, bc BK350 3, bc BK351 0, bc BK351 1, bc BK351 2, bc BK351 3⟩ (fun hHeld => ?_);clear hK K;refine nm 14 ?_;refine on HT_ 10 15 (bm 13 2047) (fun K hK => ?_);refine rS (Kd.int .i64) 3 15 ([t352, t353] : List Int) [.int .i64 t352, .int .i64 t353] ?_;intro v355 w9 ho10 hb hg_ hnew_;clear hg_ hnew_;(first | rw [← Ny354.out] at ho10 | (simp only [Int.reduceToNat] at ho10; rw [← Ny354.out] at ho10));have HO356 := Aside0.mk (Kd.R_lower ho10 (below_size (by exact bb HB.out)));replace BK350 := kb BK350 hb;replace BK351 := kb BK351 hb;replace HB := hbb HB hb;clear hb ho10;obtain ⟨Ao11, co11, eo11⟩ := Kd.R_slice HO356.out;(first | subst eo11 | (injection eo11 with f1_ f2_ f3_; have f4_ := f1_.symm; have f5_ := f3_.symm; clear f1_ f2_ f3_; subst f4_; subst f5_));refine hK.out _ _ ⟨bc BK350 0, bc BK350 1, bc BK350 2, bc BK350 3, bc BK351 0, bc BK351 1, bc BK351 2, bc BK351 3⟩ (fun hHeld => ?_);clear hK K;refine nm 15 ?_;refine on HT_ 11 16 (bm 13 4095) (fun K hK => ?_);refine gR Try.func48 #[.slice Ao11 y354.length co11] ?_
 with_reducible refine (cmp_Or_int.calls k _ _ y354 t357 _ ?side1 ?side2 A5.out).mono ?_
 (case side1 => exact Kd.cR HO356);(case side2 => exact (Kd.R_reads' HO356.out).2.1);rintro e w' ⟨rfl, ⟨nd, rfl⟩⟩;refine ⟨_, rfl, ?_⟩;refine hK.out _ _ ⟨bc BK350 0, bc BK350 1, bc BK350 2, bc BK350 3, bc BK351 0, bc BK351 1, bc BK351 2, bc BK351 3⟩ (fun hHeld => ?_);clear hK K;refine nm 16 ?_;refine pu HT_ 12 4 (bm 13 8191) ?_;refine done_ (done_of HT_.out (by kernel_rfl)) ?_
 try go_wp2
 go_ret;exact ⟨by first | rfl | (simp [errW_none, errW_some] <;> rfl) | (simp [*, errW_none, errW_some] <;> rfl), by exact bb HB.out⟩
mutual
def impl_CatOk.j0 : Nat → Bool → Int → List (S38) → Option (Bool)
 | 0, _, _, _ => none
 | k + 1, x15, x359000, x359001 => if x15 = true then (some false) else (impl_CatOk.l0 k x359001 (x359001.length : Int) 0 x359000 x359001)
def impl_CatOk.l0 : Nat → List (S38) → Int → Int → Int → List (S38) → Option (Bool)
 | 0, _, _, _, _, _ => none
 | k + 1, x17, x18, x19, x359000, x359001 => if x19 < x18 then (if 0 ≤ x19 then (if x19 < (x17.length : Int) then ((impl_publishable.f k ((rd_T38 x17 x19).f0) ((rd_T38 x17 x19).f1) ((rd_T38 x17 x19).f3)).bind fun t362 => (if t362 = true then ((impl_within.f ((rd_T38 x17 x19).f2) 1 x359000).bind fun t363 => (if t363 = true then ((impl_Cat_edition.f x359000 x359001 ((rd_T38 x17 x19).f2)).bind fun t364 => (if t364 = x19 then (if x19 > 0 then (if 0 ≤ (wrap64 (x19 - 1)) then (if (wrap64 (x19 - 1)) < (x359001.length : Int) then ((impl_itemOrder.f k ((rd_T38 x359001 (wrap64 (x19 - 1))).f0) ((rd_T38 x359001 (wrap64 (x19 - 1))).f1) ((rd_T38 x359001 (wrap64 (x19 - 1))).f2) ((rd_T38 x359001 (wrap64 (x19 - 1))).f3) ((rd_T38 x17 x19).f0) ((rd_T38 x17 x19).f1) ((rd_T38 x17 x19).f2) ((rd_T38 x17 x19).f3)).bind fun t366 => (impl_CatOk.j2 k x17 x18 x19 (decide (t366 ≥ 0)) x359000 x359001)) else (none)) else (none)) else (impl_CatOk.j2 k x17 x18 x19 false x359000 x359001)) else (impl_CatOk.j2 k x17 x18 x19 true x359000 x359001))) else (impl_CatOk.j2 k x17 x18 x19 true x359000 x359001))) else (impl_CatOk.j2 k x17 x18 x19 true x359000 x359001))) else (none)) else (none)) else (impl_CatOk.l1 k 0 x359000 x359001)
def impl_CatOk.j2 : Nat → List (S38) → Int → Int → Bool → Int → List (S38) → Option (Bool)
 | 0, _, _, _, _, _, _ => none
 | k + 1, x17, x18, x19, x62, x359000, x359001 => if x62 = true then (some false) else (impl_CatOk.l0 k x17 x18 (wrap64 (x19 + 1)) x359000 x359001)
def impl_CatOk.l1 : Nat → Int → Int → List (S38) → Option (Bool)
 | 0, _, _, _ => none
 | k + 1, x64, x359000, x359001 => if x64 < 2 then ((impl_Cat_bytes.f k x359000 x359001 x64).bind fun t367 => (if t367 > 500 then (some false) else (impl_CatOk.l1 k (wrap64 (x64 + 1)) x359000 x359001))) else (some true)
end
def impl_CatOk.f (k : Nat) (a0_0 : Int) (l0_1 : List (S38)) : Option (Bool) := (impl_within.f a0_0 0 99999).bind fun t359 => (if t359 = true then (impl_CatOk.j0 k (decide ((l0_1.length : Int) > 8)) a0_0 l0_1) else (impl_CatOk.j0 k true a0_0 l0_1))
theorem impl_CatOk.mono_l : ∀ k, (∀ y0 y1 y2, LeO (impl_CatOk.j0 k y0 y1 y2) (impl_CatOk.j0 (k + 1) y0 y1 y2)) ∧ (∀ y0 y1 y2 y3 y4, LeO (impl_CatOk.l0 k y0 y1 y2 y3 y4) (impl_CatOk.l0 (k + 1) y0 y1 y2 y3 y4)) ∧ (∀ y0 y1 y2 y3 y4 y5, LeO (impl_CatOk.j2 k y0 y1 y2 y3 y4 y5) (impl_CatOk.j2 (k + 1) y0 y1 y2 y3 y4 y5)) ∧ (∀ y0 y1 y2, LeO (impl_CatOk.l1 k y0 y1 y2) (impl_CatOk.l1 (k + 1) y0 y1 y2))
 | 0 => ⟨fun _ _ _ r h => by simp [impl_CatOk.j0] at h, fun _ _ _ _ _ r h => by simp [impl_CatOk.l0] at h, fun _ _ _ _ _ _ r h => by simp [impl_CatOk.j2] at h, fun _ _ _ r h => by simp [impl_CatOk.l1] at h⟩
 | k + 1 => by
  obtain ⟨ih0, ih1, ih2, ih3⟩ := impl_CatOk.mono_l k;refine ⟨?_, ?_, ?_, ?_⟩;intro y0 y1 y2; unfold impl_CatOk.j0; rotate_left
  intro y0 y1 y2 y3 y4; unfold impl_CatOk.l0; rotate_left
  intro y0 y1 y2 y3 y4 y5; unfold impl_CatOk.j2; rotate_left
  intro y0 y1 y2; unfold impl_CatOk.l1; rotate_left
  all_goals repeat' first
   | (with_reducible exact ih0 _ _ _)
   | (with_reducible exact ih1 _ _ _ _ _)
   | (with_reducible exact ih2 _ _ _ _ _ _)
   | (with_reducible exact ih3 _ _ _)
   | (with_reducible exact impl_Cat_bytes.mono _ _ _ _)
   | (with_reducible exact impl_itemOrder.mono _ _ _ _ _ _ _ _ _)
   | (with_reducible exact impl_publishable.mono _ _ _ _)
   | (with_reducible exact LeO.refl _)
   | (with_reducible exact LeO.none _)
   | (with_reducible refine LeO.ite ?_ ?_)
   | (with_reducible refine LeO.bind ?_ (fun _ => ?_))
   | exact LeO.none _
   | refine LeO.ite ?_ ?_
   | refine LeO.bind ?_ (fun _ => ?_)
theorem impl_CatOk.mono : ∀ a0 a1 k, LeO (impl_CatOk.f k a0 a1) (impl_CatOk.f (k + 1) a0 a1) := by
 intro a0 a1 k;obtain ⟨ih0, ih1, ih2, ih3⟩ := impl_CatOk.mono_l k;unfold impl_CatOk.f
 repeat' first
   | (with_reducible exact ih0 _ _ _)
   | (with_reducible exact ih1 _ _ _ _ _)
   | (with_reducible exact ih2 _ _ _ _ _ _)
   | (with_reducible exact ih3 _ _ _)
   | (with_reducible exact impl_Cat_bytes.mono _ _ _ _)
   | (with_reducible exact impl_itemOrder.mono _ _ _ _ _ _ _ _ _)
   | (with_reducible exact impl_publishable.mono _ _ _ _)
   | (with_reducible exact LeO.refl _)
   | (with_reducible exact LeO.none _)
   | (with_reducible refine LeO.ite ?_ ?_)
   | (with_reducible refine LeO.bind ?_ (fun _ => ?_))
   | exact LeO.none _
   | refine LeO.ite ?_ ?_
   | refine LeO.bind ?_ (fun _ => ?_)
def impl_CatOk.T6 : Bool × List (List Nat × List Nat) := (true, [([], []), ([0], [0]), ([], []), ([2], [2]), ([], []), ([4], [4]), ([1, 3, 5], [1, 3, 5]), ([6], [6]), ([7, 6], [7]), ([8], [8]), ([9, 8], [8, 9]), ([8], [8]), ([11, 8], [8, 11]), ([10, 12, 8, 8], [8, 10, 12]), ([13, 8], [8, 13]), ([8, 14], [8, 14]), ([15, 13], [15]), ([16], [16]), ([16], [16]), ([18, 16], [16, 18]), ([17, 19, 16, 16], [16, 17, 19]), ([16], [16]), ([20, 21, 16], [16, 20, 21]), ([16, 22], [16, 22]), ([23, 20], [23]), ([24], [24]), ([25, 24], [24, 25]), ([26, 24, 24], [24, 26]), ([27], [27]), ([28, 27], [27, 28]), ([27], [27]), ([30, 27], [27, 30]), ([29, 31, 27], [27, 29, 31]), ([32, 27], [27, 32]), ([27], [27]), ([33, 34, 27, 27], [27, 33, 34]), ([35, 27], [27, 35]), ([27, 36, 24], [24, 27, 36]), ([24, 37], [24, 37])])
def impl_CatOk.B6 : List Nat := [0, 1, 0, 4, 0, 16, 63, 127, 255, 511, 1023, 511, 2559, 8191, 16383, 32767, 65535, 131071, 131071, 393215, 1048575, 131071, 4194303, 8388607, 16777215, 33554431, 67108863, 134217727, 268435455, 536870911, 268435455, 1342177279, 4294967295, 8589934591, 268435455, 34359738367, 68719476735, 137438953471, 274877906943]
theorem impl_CatOk.tab6 : rtab .any (opsOf Try.f16 6) = impl_CatOk.T6 := by kernel_rfl
theorem impl_CatOk.bits6 : waitsOk impl_CatOk.T6.2 impl_CatOk.B6 = true := by kernel_rfl
set_option maxHeartbeats 8000000 in
set_option maxRecDepth 100000 in
theorem impl_CatOk.calls (k : Nat) (a0_0 : Int) (A0_1 : Option Addr) (c0_1 : Nat) (l0_1 : List (S38)) (r : Bool) (w : World) (hr0_1 : Kd.C k38 w A0_1 l0_1.length l0_1) (hc0_1 : l0_1.length ≤ c0_1) (h : impl_CatOk.f k a0_0 l0_1 = some r) :
  Calls Try.prog 16 #[.agg #[.int .i64 a0_0, .slice A0_1 l0_1.length c0_1]] w fun e w' => e = .returned (.bool r) ∧ Below w.heap.size w w' := by
 have hu25 := Try.underlying25;have hu38 := Try.underlying38;have HR0_1 := Aside0.mk hr0_1;have HC0_1 := Aside0.mk hc0_1;clear hr0_1 hc0_1;have HB := Aside0.mk (Below.refl w.heap.size w);have H : ((impl_within.f a0_0 0 99999).bind fun t359 => (if t359 = true then (impl_CatOk.j0 k (decide ((l0_1.length : Int) > 8)) a0_0 l0_1) else (impl_CatOk.j0 k true a0_0 l0_1))) = some r := h;clear h;have HC2 := Aside0.mk H;clear H
 go_enter Try.func16, Try.ntmps16
 go_upto_region 1 with (first | ((with_reducible refine gate_dst (N := 1) rfl ?_); (try (refine gate_guard (by rfl) ?_; dsimp only)); refine bv 1 #[.int .i64 a0_0, .slice A0_1 l0_1.length c0_1] 25 ?_; intro gb358 hg w3 hbox hb; have BK358 := Aside0.mk (hbox); have GW358 := gw HB hg; have GE358 := gw HB hg; replace HB := hbb HB hb; clear hb hbox hg))
 (try simp only [Act.put, sB, s0, s1])
 go_cut [15] (fun v15 wc => ∃ (kq : Nat) (x15_1 : Bool), v15 = .bool x15_1 ∧ Aside0 (impl_CatOk.j0 kq x15_1 a0_0 l0_1 = some r) ∧ Aside0 (kq ≤ k) ∧ Aside0 (wc.heap[gb358]? = some (.cells #[.int .i64 a0_0, (.slice A0_1 l0_1.length c0_1)] 25 (0, 0))) ∧ Aside0 (Below w.heap.size w wc))
 case first =>
  have H := HC2.out;clear HC2;replace H := Option.bind_eq_some_iff.mp H;obtain ⟨t359, A40, H⟩ := H;have A4 := Aside0.mk A40;clear A40
  by_cases c5 : t359 = true
  ·subst c5;rw [if_pos rfl] at H;have H' := Aside0.mk H;clear H;obtain ⟨hcz6_0, hcz6_1, hfz6_0, hfz6_1⟩ := c2 BK358;go_wp2_with (first | ((with_reducible refine gate_callee (f := 35) rfl ?_); refine gL 8 Try.func35 #[.int .i64 a0_0, .int .i64 0, .int .i64 99999] ?_; (with_reducible refine (impl_within.calls a0_0 0 99999 true _ A4.out).mono ?_); rintro e w' ⟨rfl, ⟨nd, rfl⟩⟩; refine ⟨_, rfl, ?_⟩))
   go_meet
   case rel => exact ⟨_, (decide ((l0_1.length : Int) > 8)), rs, H', ⟨by first | omega | exact Nat.le_refl _⟩, ⟨bl BK358.out⟩, ⟨by exact bb HB.out⟩⟩
  replace c5 := Bool.eq_false_iff.mpr c5;subst c5;rw [if_neg (show ¬ (false = true) by decide)] at H;have H' := Aside0.mk H;clear H;obtain ⟨hcz7_0, hcz7_1, hfz7_0, hfz7_1⟩ := c2 BK358;go_wp2_with (first | ((with_reducible refine gate_callee (f := 35) rfl ?_); refine gL 8 Try.func35 #[.int .i64 a0_0, .int .i64 0, .int .i64 99999] ?_; (with_reducible refine (impl_within.calls a0_0 0 99999 false _ A4.out).mono ?_); rintro e w' ⟨rfl, ⟨nd, rfl⟩⟩; refine ⟨_, rfl, ?_⟩))
  go_meet
  case rel => exact ⟨_, (true), rs, H', ⟨by first | omega | exact Nat.le_refl _⟩, ⟨bl BK358.out⟩, ⟨by exact bb HB.out⟩⟩
 case rest =>
  clear HC2;try clear c1
  try clear p2
  try clear c3
  try clear c5
  try clear hcz6_0
  try clear hcz6_1
  try clear hcz7_0
  try clear hcz7_1
  try clear hfz6_0
  try clear hfz6_1
  try clear hfz7_0
  try clear hfz7_1
  obtain ⟨kq, x15_1, rfl, HA, HJ1, BK358, HB⟩ := hcut
  cases kq with
  | zero => exact absurd HA.out (by simp [impl_CatOk.j0])
  | succ kj1 =>
   have H := HA.out;clear HA;simp only [impl_CatOk.j0] at H
   by_cases c8 : x15_1 = true
   ·subst c8;rw [if_pos rfl] at H;obtain rfl := Option.some.inj H;go_wp2;go_ret;exact ⟨by first | rfl | (simp [errW_none, errW_some] <;> rfl) | (simp [*, errW_none, errW_some] <;> rfl), by exact bb HB.out⟩
   ·replace c8 := Bool.eq_false_iff.mpr c8;subst c8;rw [if_neg (show ¬ (false = true) by decide)] at H;have H' := Aside0.mk H;clear H;obtain ⟨hcz9_0, hcz9_1, hfz9_0, hfz9_1⟩ := c2 BK358;go_wp2
    go_loopg [19] kj1 (fun kq v19 w' => ∃ (x19_2 : Int), v19 = .int .i64 x19_2 ∧ Aside0 (impl_CatOk.l0 kq l0_1 (l0_1.length : Int) x19_2 a0_0 l0_1 = some r) ∧ Aside0 (kq ≤ kj1) ∧ Aside0 (w'.heap[gb358]? = some (.cells #[.int .i64 a0_0, (.slice A0_1 l0_1.length c0_1)] 25 (0, 0))) ∧ Aside0 (Below w.heap.size w w'))
    case atStart => exact ⟨(0), rs, H', ⟨Nat.le_refl _⟩, ⟨bl BK358.out⟩, ⟨by exact bb HB.out⟩⟩
    case round =>
     clear H';(try clear c1);(try clear p2);(try clear c3);(try clear c5);(try clear c8);(try clear hcz6_0);(try clear hcz6_1);(try clear hcz7_0);(try clear hcz7_1);(try clear hcz9_0);(try clear hcz9_1);(try clear hfz6_0);(try clear hfz6_1);(try clear hfz7_0);(try clear hfz7_1);(try clear hfz9_0);(try clear hfz9_1);(try clear p2);obtain ⟨x19_2, rfl, HA, HK2, BK358, HB⟩ := hrel
     cases gk with
     | zero => exact absurd HA.out (by simp [impl_CatOk.l0])
     | succ k2 =>
      have H := HA.out;clear HA;simp only [impl_CatOk.l0] at H
      by_cases c10 : x19_2 < (l0_1.length : Int)
      ·rw [if_pos c10] at H;have c10b0 : decide (x19_2 < (l0_1.length : Int)) = true := decide_eq_true c10;clear c10
       by_cases c11 : 0 ≤ x19_2
       ·rw [if_pos c11] at H;have c11b0 : decide (0 ≤ x19_2) = true := decide_eq_true c11;clear c11
        by_cases c12 : x19_2 < (l0_1.length : Int)
        ·rw [if_pos c12] at H;have c12b0 : decide (x19_2 < (l0_1.length : Int)) = true := decide_eq_true c12;clear c12;have HC13 := Aside0.mk H;clear H;have p360 : 0 ≤ (x19_2 : Int) := of_decide_eq_true am;have q360 : x19_2 < (l0_1.length : Int) := of_decide_eq_true am;obtain ⟨ad360, e360, hx360_0, hx360_1, hx360_2, hx360_3⟩ := at_T38 HR0_1.out x19_2 p360 q360;cases e360;replace hx360_0 := (HB.out.cell (World.block_lt_of_cell? w _ hx360_0)).trans hx360_0;replace hx360_1 := (HB.out.cell (World.block_lt_of_cell? w _ hx360_1)).trans hx360_1;replace hx360_2 := (HB.out.cell (World.block_lt_of_cell? w _ hx360_2)).trans hx360_2;replace hx360_3 := (HB.out.cell (World.block_lt_of_cell? w _ hx360_3)).trans hx360_3;replace p360 := eq_true p360;replace q360 := eq_true q360
         go_upto_region 6 with (first | ((with_reducible refine gate_dst (N := 4) rfl ?_); (try (refine gate_guard (by rfl) ?_; dsimp only)); refine bv 4 #[.int .i64 0, .string (⟨#[]⟩ : ByteArray), .int .i64 0, .string (⟨#[]⟩ : ByteArray)] 38 ?_; intro gb361 hg w14 hbox hb; have BK361 := Aside0.mk (hbox); have GW361 := gw HB hg; have GE361 := gw HB hg; have NB358_361 := nl BK358 hg; have NB361_358 := ng BK358 hg; replace BK358 := kb BK358 hb; replace HB := hbb HB hb; clear hb hbox hg; have hnb15 := NB361_358.out; have hnc15 := NB358_361.out; obtain ⟨hcz16_0, hcz16_1, hcz16_2, hcz16_3, hfz16_0, hfz16_1, hfz16_2, hfz16_3⟩ := c4 BK361))
         (try simp only [Act.put, sB, s0, s1])
         go_cut [62] (fun v62 wc => ∃ (kq : Nat) (x62_12 : Bool), v62 = .bool x62_12 ∧ Aside0 (impl_CatOk.j2 kq l0_1 (l0_1.length : Int) x19_2 x62_12 a0_0 l0_1 = some r) ∧ Aside0 (kq ≤ k2) ∧ Aside0 (wc.heap[gb358]? = some (.cells #[.int .i64 a0_0, (.slice (some ad360) l0_1.length c0_1)] 25 (0, 0))) ∧ Aside0 (wc.heap[gb361]? = some (.cells #[.int .i64 ((rd_T38 l0_1 x19_2).f0), .string ((rd_T38 l0_1 x19_2).f1), .int .i64 ((rd_T38 l0_1 x19_2).f2), .string ((rd_T38 l0_1 x19_2).f3)] 38 (0, 0))) ∧ Aside0 (Below w.heap.size w wc))
         case first =>
          have H := HC13.out;clear HC13;replace H := Option.bind_eq_some_iff.mp H;obtain ⟨t362, A170, H⟩ := H;have A17 := Aside0.mk A170;clear A170
          by_cases c18 : t362 = true
          ·subst c18;rw [if_pos rfl] at H;replace H := Option.bind_eq_some_iff.mp H;obtain ⟨t363, A190, H⟩ := H;have A19 := Aside0.mk A190;clear A190
           by_cases c20 : t363 = true
           ·subst c20;rw [if_pos rfl] at H;replace H := Option.bind_eq_some_iff.mp H;obtain ⟨t364, A210, H⟩ := H;have A21 := Aside0.mk A210;clear A210
            by_cases c22 : t364 = x19_2
            ·rw [if_pos c22] at H;have c22b0 : (t364 == x19_2) = true := beq_iff_eq.mpr c22;have c22b1 : (t364 != x19_2) = false := bne_eq_false_iff_eq.mpr c22;clear c22;(first | rw [c22b0] | (simp only [i64_w, i32_w]; rw [c22b0]) | skip)
             by_cases c23 : x19_2 > 0
             ·rw [if_pos c23] at H;have c23b0 : decide (0 < x19_2) = true := decide_eq_true c23;clear c23;obtain ⟨ji24, hji24⟩ : ∃ j_ : Int, (wrap64 (x19_2 - 1)) = j_ := ⟨_, rfl⟩;replace H : (if 0 ≤ (ji24) then (if (ji24) < (l0_1.length : Int) then ((impl_itemOrder.f k2 ((rd_T38 l0_1 (ji24)).f0) ((rd_T38 l0_1 (ji24)).f1) ((rd_T38 l0_1 (ji24)).f2) ((rd_T38 l0_1 (ji24)).f3) ((rd_T38 l0_1 x19_2).f0) ((rd_T38 l0_1 x19_2).f1) ((rd_T38 l0_1 x19_2).f2) ((rd_T38 l0_1 x19_2).f3)).bind fun t366 => (impl_CatOk.j2 k2 l0_1 (l0_1.length : Int) x19_2 (decide (t366 ≥ 0)) a0_0 l0_1)) else (none)) else (none)) = some r := by first | (rw [hji24] at H; exact H) | (simp only [hji24] at H ⊢; exact H)
              (try rw [hji24] at A17);(try rw [hji24] at A19);(try rw [hji24] at A21);have hji24w : (IntKind.i64.wrap (x19_2 - 1)) = ji24 := (i64_w _).trans hji24
              by_cases c25 : 0 ≤ (ji24)
              ·rw [if_pos c25] at H;have c25b0 : decide (0 ≤ (ji24)) = true := decide_eq_true c25;clear c25
               by_cases c26 : (ji24) < (l0_1.length : Int)
               ·rw [if_pos c26] at H;have c26b0 : decide ((ji24) < (l0_1.length : Int)) = true := decide_eq_true c26;clear c26;replace H := Option.bind_eq_some_iff.mp H;obtain ⟨t366, A270, H⟩ := H;have A27 := Aside0.mk A270;clear A270;have H' := Aside0.mk H;clear H
                try go_wp2
                obtain ⟨w28, hw_⟩ : ∃ W_, ((((w14.setCell ⟨gb361, 0, none⟩ (.int .i64 ((rd_T38 l0_1 x19_2).f0))).setCell ⟨gb361, 1, none⟩ (.string ((rd_T38 l0_1 x19_2).f1))).setCell ⟨gb361, 2, none⟩ (.int .i64 ((rd_T38 l0_1 x19_2).f2))).setCell ⟨gb361, 3, none⟩ (.string ((rd_T38 l0_1 x19_2).f3))) = W_ := ⟨_, rfl⟩;have hi_ : Lax gb361 w14 w28 := (by rw [← hw_]; infer_instance);have n0_ : Aside0 (w28.heap[gb358]? = some (.cells #[.int .i64 a0_0, .slice (some ad360) l0_1.length c0_1] 25 (0, 0))) := ⟨bx (a := gb361) BK358.out NB358_361.out⟩;have n1_ : Aside0 (w28.heap[gb361]? = some (.cells #[.int .i64 ((rd_T38 l0_1 x19_2).f0), .string ((rd_T38 l0_1 x19_2).f1), .int .i64 ((rd_T38 l0_1 x19_2).f2), .string ((rd_T38 l0_1 x19_2).f3)] 38 (0, 0))) := ⟨by rw [← hw_]; exact (bp BK361.out (by rfl))⟩;have n2_ : Aside0 (Below w.heap.size w w28) := ⟨by exact bbx (a := gb361) HB.out GE361.out⟩;(try clear BK358);(try clear BK361);(try clear HB);clear hi_;(try rw [hw_]);clear hw_;have BK358 := n0_;have BK361 := n1_;have HB := n2_;clear n0_ n1_ n2_;replace BK358 := Aside0.mk (blk_drew BK358.out);replace BK361 := Aside0.mk (blk_drew BK361.out);replace HB := Aside0.mk (below_drew1 HB.out);have p365 : 0 ≤ ((ji24) : Int) := of_decide_eq_true am;have q365 : (ji24) < (l0_1.length : Int) := of_decide_eq_true am;obtain ⟨ad365, e365, hx365_0, hx365_1, hx365_2, hx365_3⟩ := at_T38 HR0_1.out (ji24) p365 q365;have hw365_3 := hx365_3;have hw365_2 := hx365_2;have hw365_1 := hx365_1;have hw365_0 := hx365_0;obtain rfl : ad360 = ad365 := (by injection e365);replace hx365_0 := (HB.out.cell (World.block_lt_of_cell? w _ hx365_0)).trans hx365_0;replace hx365_1 := (HB.out.cell (World.block_lt_of_cell? w _ hx365_1)).trans hx365_1;replace hx365_2 := (HB.out.cell (World.block_lt_of_cell? w _ hx365_2)).trans hx365_2;replace hx365_3 := (HB.out.cell (World.block_lt_of_cell? w _ hx365_3)).trans hx365_3;replace p365 := eq_true p365;replace q365 := eq_true q365;refine start_ (n := 39) (S := fun w' => w'.cell? ⟨gb361, 0, none⟩ = some (.int .i64 ((rd_T38 l0_1 x19_2).f0)) ∧ w'.cell? ⟨gb361, 1, none⟩ = some (.string ((rd_T38 l0_1 x19_2).f1)) ∧ w'.cell? ⟨gb361, 2, none⟩ = some (.int .i64 ((rd_T38 l0_1 x19_2).f2)) ∧ w'.cell? ⟨gb361, 3, none⟩ = some (.string ((rd_T38 l0_1 x19_2).f3)) ∧ w'.cell? ⟨gb358, 0, none⟩ = some (.int .i64 a0_0) ∧ w'.cell? ⟨gb358, 1, none⟩ = some (.slice (some ad360) l0_1.length c0_1) ∧ w'.cell? (ad360.add (((ji24)).toNat * 4)) = some (.int .i64 ((rd_T38 l0_1 (ji24)).f0)) ∧ w'.cell? ⟨(ad360.add (((ji24)).toNat * 4)).block, (ad360.add (((ji24)).toNat * 4)).off + 1, none⟩ = some (.string ((rd_T38 l0_1 (ji24)).f1)) ∧ w'.cell? ⟨(ad360.add (((ji24)).toNat * 4)).block, (ad360.add (((ji24)).toNat * 4)).off + 2, none⟩ = some (.int .i64 ((rd_T38 l0_1 (ji24)).f2)) ∧ w'.cell? ⟨(ad360.add (((ji24)).toNat * 4)).block, (ad360.add (((ji24)).toNat * 4)).off + 3, none⟩ = some (.string ((rd_T38 l0_1 (ji24)).f3))) (ds := []) (bm 39 0) (by kernel_rfl) rfl rfl ⟨bc BK361 0, bc BK361 1, bc BK361 2, bc BK361 3, bc BK358 0, bc BK358 1, ((HB.out.cell (World.block_lt_of_cell? w _ hw365_0)).trans hw365_0), ((HB.out.cell (World.block_lt_of_cell? w _ hw365_1)).trans hw365_1), ((HB.out.cell (World.block_lt_of_cell? w _ hw365_2)).trans hw365_2), ((HB.out.cell (World.block_lt_of_cell? w _ hw365_3)).trans hw365_3)⟩ (fun hHeld => ?_); refine with_tabW impl_CatOk.tab6 impl_CatOk.bits6 (fun HT_ HW_ => ?_)
                generalize w28.drew = w29 at BK358 BK361 HB hx365_0 hx365_1 hx365_2 hx365_3 hHeld ⊢;refine pu HT_ 0 24 (bm 39 1) ?_;refine pu HT_ 2 26 (bm 39 5) ?_;refine pu HT_ 4 28 (bm 39 21) ?_;refine tk HT_ HW_ 1 25 (bm 39 23) hHeld ?_;refine tk HT_ HW_ 3 27 (bm 39 31) hHeld ?_;refine tk HT_ HW_ 5 29 (bm 39 63) hHeld ?_;refine on HT_ 6 30 (bm 39 127) (fun K hK => ?_);refine gR Try.func36 #[.int .i64 ((rd_T38 l0_1 x19_2).f0), .string ((rd_T38 l0_1 x19_2).f1), .string ((rd_T38 l0_1 x19_2).f3)] ?_;(with_reducible refine (impl_publishable.calls k2 ((rd_T38 l0_1 x19_2).f0) ((rd_T38 l0_1 x19_2).f1) ((rd_T38 l0_1 x19_2).f3) true _ A17.out).mono ?_);rintro e w' ⟨rfl, ⟨nd, rfl⟩⟩;refine ⟨_, rfl, ?_⟩;refine hK.out _ _ ⟨bc BK361 0, bc BK361 1, bc BK361 2, bc BK361 3, bc BK358 0, bc BK358 1, ((HB.out.cell (World.block_lt_of_cell? w _ hw365_0)).trans hw365_0), ((HB.out.cell (World.block_lt_of_cell? w _ hw365_1)).trans hw365_1), ((HB.out.cell (World.block_lt_of_cell? w _ hw365_2)).trans hw365_2), ((HB.out.cell (World.block_lt_of_cell? w _ hw365_3)).trans hw365_3)⟩ (fun hHeld => ?_);clear hK K;refine nm 30 ?_;refine pu HT_ 7 31 (bm 39 255) ?_;refine pu HT_ 8 32 (bm 39 511) ?_;refine pu HT_ 9 33 (bm 39 1023) ?_;refine pu HT_ 11 35 (bm 39 3071) ?_;refine tk HT_ HW_ 10 34 (bm 39 4095) hHeld ?_;refine tk HT_ HW_ 12 36 (bm 39 8191) hHeld ?_;refine on HT_ 13 37 (bm 39 16383) (fun K hK => ?_);refine gR Try.func35 #[.int .i64 ((rd_T38 l0_1 x19_2).f2), .int .i64 1, .int .i64 a0_0] ?_;(with_reducible refine (impl_within.calls ((rd_T38 l0_1 x19_2).f2) 1 a0_0 true _ A19.out).mono ?_);rintro e w' ⟨rfl, ⟨nd, rfl⟩⟩;refine ⟨_, rfl, ?_⟩;refine hK.out _ _ ⟨bc BK361 0, bc BK361 1, bc BK361 2, bc BK361 3, bc BK358 0, bc BK358 1, ((HB.out.cell (World.block_lt_of_cell? w _ hw365_0)).trans hw365_0), ((HB.out.cell (World.block_lt_of_cell? w _ hw365_1)).trans hw365_1), ((HB.out.cell (World.block_lt_of_cell? w _ hw365_2)).trans hw365_2), ((HB.out.cell (World.block_lt_of_cell? w _ hw365_3)).trans hw365_3)⟩ (fun hHeld => ?_);clear hK K;refine nm 37 ?_;refine pu HT_ 14 38 (bm 39 32767) ?_;refine pu HT_ 15 39 (bm 39 65535) ?_;refine pu HT_ 16 40 (bm 39 131071) ?_;refine pu HT_ 18 42 (bm 39 393215) ?_;refine pu HT_ 21 45 (bm 39 2490367) ?_;refine tk HT_ HW_ 17 41 (bm 39 2621439) hHeld ?_;refine tk HT_ HW_ 19 43 (bm 39 3145727) hHeld ?_;refine on HT_ 20 44 (bm 39 4194303) (fun K hK => ?_);refine gR Try.func34 #[.agg #[.int .i64 a0_0, .slice (some ad360) l0_1.length c0_1], .int .i64 ((rd_T38 l0_1 x19_2).f2)] ?_;(with_reducible refine (impl_Cat_edition.calls a0_0 _ _ l0_1 ((rd_T38 l0_1 x19_2).f2) t364 _ ?side1 ?side2 A21.out).mono ?_);(case side1 => repeat (first | exact (Kd.C_below HR0_1.out (by exact bb HB.out)) | (with_reducible refine Kd.C_alloc ?_ _) | (with_reducible refine Kd.C_drewN ?_ _) | (with_reducible refine Kd.C_drew ?_)));(case side2 => exact HC0_1.out);rintro e w30 ⟨rfl, hb⟩;refine ⟨_, rfl, ?_⟩;replace BK358 := kb BK358 hb;replace BK361 := kb BK361 hb;replace HB := hbb HB hb;(try clear hb);(try clear hb2);(try clear hk);(try clear hi);refine hK.out _ _ ⟨bc BK361 0, bc BK361 1, bc BK361 2, bc BK361 3, bc BK358 0, bc BK358 1, ((HB.out.cell (World.block_lt_of_cell? w _ hw365_0)).trans hw365_0), ((HB.out.cell (World.block_lt_of_cell? w _ hw365_1)).trans hw365_1), ((HB.out.cell (World.block_lt_of_cell? w _ hw365_2)).trans hw365_2), ((HB.out.cell (World.block_lt_of_cell? w _ hw365_3)).trans hw365_3)⟩ (fun hHeld => ?_);clear hK K;refine nm 44 ?_;refine pu HT_ 22 46 (bm 39 8388607) ?_;refine pu HT_ 23 47 (bm 39 16777215) ?_;refine pu HT_ 24 48 (bm 39 33554431) ?_;refine pu HT_ 25 49 (bm 39 67108863) ?_;refine pu HT_ 26 50 (bm 39 134217727) ?_;refine pu HT_ 27 51 (bm 39 268435455) ?_;refine pu HT_ 28 52 (bm 39 536870911) ?_;refine pu HT_ 30 54 (bm 39 1610612735) ?_;refine pu HT_ 31 55 (bm 39 3758096383) ?_;refine tk HT_ HW_ 29 53 (bm 39 4294967295) hHeld ?_;refine pu HT_ 32 56 (bm 39 8589934591) ?_;refine tk HT_ HW_ 33 57 (bm 39 17179869183) hHeld ?_;refine tk HT_ HW_ 34 58 (bm 39 34359738367) hHeld ?_;refine on HT_ 35 59 (bm 39 68719476735) (fun K hK => ?_);refine goes_ Try.func37 (by kernel_rfl) rfl #[.agg #[.int .i64 ((rd_T38 l0_1 (ji24)).f0), .string ((rd_T38 l0_1 (ji24)).f1), .int .i64 ((rd_T38 l0_1 (ji24)).f2), .string ((rd_T38 l0_1 (ji24)).f3)], .agg #[.int .i64 ((rd_T38 l0_1 x19_2).f0), .string ((rd_T38 l0_1 x19_2).f1), .int .i64 ((rd_T38 l0_1 x19_2).f2), .string ((rd_T38 l0_1 x19_2).f3)]] (by rfl) rfl rfl (by (try simp only [List.map_toArray, List.map_cons, List.map_nil]); first | done | (simp only [hji24]; rfl) | rfl | (simp only [List.length_drop, List.length_take]; rfl)) ?_;(with_reducible refine (impl_itemOrder.calls k2 ((rd_T38 l0_1 (ji24)).f0) ((rd_T38 l0_1 (ji24)).f1) ((rd_T38 l0_1 (ji24)).f2) ((rd_T38 l0_1 (ji24)).f3) ((rd_T38 l0_1 x19_2).f0) ((rd_T38 l0_1 x19_2).f1) ((rd_T38 l0_1 x19_2).f2) ((rd_T38 l0_1 x19_2).f3) t366 _ A27.out).mono ?_);rintro e w31 ⟨rfl, hb⟩;refine ⟨_, rfl, ?_⟩;replace BK358 := kb BK358 hb;replace BK361 := kb BK361 hb;replace HB := hbb HB hb;(try clear hb);(try clear hb2);(try clear hk);(try clear hi);refine hK.out _ _ ⟨bc BK361 0, bc BK361 1, bc BK361 2, bc BK361 3, bc BK358 0, bc BK358 1, ((HB.out.cell (World.block_lt_of_cell? w _ hw365_0)).trans hw365_0), ((HB.out.cell (World.block_lt_of_cell? w _ hw365_1)).trans hw365_1), ((HB.out.cell (World.block_lt_of_cell? w _ hw365_2)).trans hw365_2), ((HB.out.cell (World.block_lt_of_cell? w _ hw365_3)).trans hw365_3)⟩ (fun hHeld => ?_);clear hK K;refine nm 59 ?_;refine pu HT_ 36 60 (bm 39 137438953471) ?_;refine pu HT_ 37 61 (bm 39 274877906943) ?_;refine pu HT_ 38 62 (bm 39 549755813887) ?_;refine done_ (done_of HT_.out (by kernel_rfl)) ?_
                try go_wp2
                go_meet
                case rel => exact ⟨_, (decide (t366 ≥ 0)), rs, H', ⟨by have := HJ1.out; have := HK2.out; first | omega | exact Nat.le_refl _⟩, ⟨bl BK358.out⟩, ⟨bl BK361.out⟩, ⟨by exact bb HB.out⟩⟩
               rw [if_neg c26] at H;exact absurd H (by simp)
              rw [if_neg c25] at H;exact absurd H (by simp)
             rw [if_neg c23] at H;have c23b0 : decide (0 < x19_2) = false := decide_eq_false c23;clear c23;have H' := Aside0.mk H;clear H
             try go_wp2
             obtain ⟨w32, hw_⟩ : ∃ W_, ((((w14.setCell ⟨gb361, 0, none⟩ (.int .i64 ((rd_T38 l0_1 x19_2).f0))).setCell ⟨gb361, 1, none⟩ (.string ((rd_T38 l0_1 x19_2).f1))).setCell ⟨gb361, 2, none⟩ (.int .i64 ((rd_T38 l0_1 x19_2).f2))).setCell ⟨gb361, 3, none⟩ (.string ((rd_T38 l0_1 x19_2).f3))) = W_ := ⟨_, rfl⟩;have hi_ : Lax gb361 w14 w32 := (by rw [← hw_]; infer_instance);have n0_ : Aside0 (w32.heap[gb358]? = some (.cells #[.int .i64 a0_0, .slice (some ad360) l0_1.length c0_1] 25 (0, 0))) := ⟨bx (a := gb361) BK358.out NB358_361.out⟩;have n1_ : Aside0 (w32.heap[gb361]? = some (.cells #[.int .i64 ((rd_T38 l0_1 x19_2).f0), .string ((rd_T38 l0_1 x19_2).f1), .int .i64 ((rd_T38 l0_1 x19_2).f2), .string ((rd_T38 l0_1 x19_2).f3)] 38 (0, 0))) := ⟨by rw [← hw_]; exact (bp BK361.out (by rfl))⟩;have n2_ : Aside0 (Below w.heap.size w w32) := ⟨by exact bbx (a := gb361) HB.out GE361.out⟩;(try clear BK358);(try clear BK361);(try clear HB);clear hi_;(try rw [hw_]);clear hw_;have BK358 := n0_;have BK361 := n1_;have HB := n2_;clear n0_ n1_ n2_;replace BK358 := Aside0.mk (blk_drew BK358.out);replace BK361 := Aside0.mk (blk_drew BK361.out);replace HB := Aside0.mk (below_drew1 HB.out);refine start_ (n := 39) (S := fun w' => w'.cell? ⟨gb361, 0, none⟩ = some (.int .i64 ((rd_T38 l0_1 x19_2).f0)) ∧ w'.cell? ⟨gb361, 1, none⟩ = some (.string ((rd_T38 l0_1 x19_2).f1)) ∧ w'.cell? ⟨gb361, 2, none⟩ = some (.int .i64 ((rd_T38 l0_1 x19_2).f2)) ∧ w'.cell? ⟨gb361, 3, none⟩ = some (.string ((rd_T38 l0_1 x19_2).f3)) ∧ w'.cell? ⟨gb358, 0, none⟩ = some (.int .i64 a0_0) ∧ w'.cell? ⟨gb358, 1, none⟩ = some (.slice (some ad360) l0_1.length c0_1)) (ds := []) (bm 39 0) (by kernel_rfl) rfl rfl ⟨bc BK361 0, bc BK361 1, bc BK361 2, bc BK361 3, bc BK358 0, bc BK358 1⟩ (fun hHeld => ?_); refine with_tabW impl_CatOk.tab6 impl_CatOk.bits6 (fun HT_ HW_ => ?_)
             generalize w32.drew = w33 at BK358 BK361 HB hHeld ⊢;refine pu HT_ 0 24 (bm 39 1) ?_;refine pu HT_ 2 26 (bm 39 5) ?_;refine pu HT_ 4 28 (bm 39 21) ?_;refine tk HT_ HW_ 1 25 (bm 39 23) hHeld ?_;refine tk HT_ HW_ 3 27 (bm 39 31) hHeld ?_;refine tk HT_ HW_ 5 29 (bm 39 63) hHeld ?_;refine on HT_ 6 30 (bm 39 127) (fun K hK => ?_);refine gR Try.func36 #[.int .i64 ((rd_T38 l0_1 x19_2).f0), .string ((rd_T38 l0_1 x19_2).f1), .string ((rd_T38 l0_1 x19_2).f3)] ?_;(with_reducible refine (impl_publishable.calls k2 ((rd_T38 l0_1 x19_2).f0) ((rd_T38 l0_1 x19_2).f1) ((rd_T38 l0_1 x19_2).f3) true _ A17.out).mono ?_);rintro e w' ⟨rfl, ⟨nd, rfl⟩⟩;refine ⟨_, rfl, ?_⟩;refine hK.out _ _ ⟨bc BK361 0, bc BK361 1, bc BK361 2, bc BK361 3, bc BK358 0, bc BK358 1⟩ (fun hHeld => ?_);clear hK K;refine nm 30 ?_;refine pu HT_ 7 31 (bm 39 255) ?_;refine pu HT_ 8 32 (bm 39 511) ?_;refine pu HT_ 9 33 (bm 39 1023) ?_;refine pu HT_ 11 35 (bm 39 3071) ?_;refine tk HT_ HW_ 10 34 (bm 39 4095) hHeld ?_;refine tk HT_ HW_ 12 36 (bm 39 8191) hHeld ?_;refine on HT_ 13 37 (bm 39 16383) (fun K hK => ?_);refine gR Try.func35 #[.int .i64 ((rd_T38 l0_1 x19_2).f2), .int .i64 1, .int .i64 a0_0] ?_;(with_reducible refine (impl_within.calls ((rd_T38 l0_1 x19_2).f2) 1 a0_0 true _ A19.out).mono ?_);rintro e w' ⟨rfl, ⟨nd, rfl⟩⟩;refine ⟨_, rfl, ?_⟩;refine hK.out _ _ ⟨bc BK361 0, bc BK361 1, bc BK361 2, bc BK361 3, bc BK358 0, bc BK358 1⟩ (fun hHeld => ?_);clear hK K;refine nm 37 ?_;refine pu HT_ 14 38 (bm 39 32767) ?_;refine pu HT_ 15 39 (bm 39 65535) ?_;refine pu HT_ 16 40 (bm 39 131071) ?_;refine pu HT_ 18 42 (bm 39 393215) ?_;refine pu HT_ 21 45 (bm 39 2490367) ?_;refine tk HT_ HW_ 17 41 (bm 39 2621439) hHeld ?_;refine tk HT_ HW_ 19 43 (bm 39 3145727) hHeld ?_;refine on HT_ 20 44 (bm 39 4194303) (fun K hK => ?_);refine gR Try.func34 #[.agg #[.int .i64 a0_0, .slice (some ad360) l0_1.length c0_1], .int .i64 ((rd_T38 l0_1 x19_2).f2)] ?_;(with_reducible refine (impl_Cat_edition.calls a0_0 _ _ l0_1 ((rd_T38 l0_1 x19_2).f2) t364 _ ?side1 ?side2 A21.out).mono ?_);(case side1 => repeat (first | exact (Kd.C_below HR0_1.out (by exact bb HB.out)) | (with_reducible refine Kd.C_alloc ?_ _) | (with_reducible refine Kd.C_drewN ?_ _) | (with_reducible refine Kd.C_drew ?_)));(case side2 => exact HC0_1.out);rintro e w34 ⟨rfl, hb⟩;refine ⟨_, rfl, ?_⟩;replace BK358 := kb BK358 hb;replace BK361 := kb BK361 hb;replace HB := hbb HB hb;(try clear hb);(try clear hb2);(try clear hk);(try clear hi);refine hK.out _ _ ⟨bc BK361 0, bc BK361 1, bc BK361 2, bc BK361 3, bc BK358 0, bc BK358 1⟩ (fun hHeld => ?_);clear hK K;refine nm 44 ?_;refine pu HT_ 22 46 (bm 39 8388607) ?_;refine pu HT_ 23 47 (bm 39 16777215) ?_;refine pu HT_ 24 48 (bm 39 33554431) ?_;refine pu HT_ 25 49 (bm 39 67108863) ?_;refine pu HT_ 26 50 (bm 39 134217727) ?_;refine pu HT_ 27 51 (bm 39 268435455) ?_;refine pd HT_ 28 52 (bm 39 536870911) ?_;refine pd HT_ 29 53 (bm 39 1073741823) ?_;refine pd HT_ 30 54 (bm 39 2147483647) ?_;refine pd HT_ 31 55 (bm 39 4294967295) ?_;refine pd HT_ 32 56 (bm 39 8589934591) ?_;refine pd HT_ 33 57 (bm 39 17179869183) ?_;refine pd HT_ 34 58 (bm 39 34359738367) ?_;refine pd HT_ 35 59 (bm 39 68719476735) ?_;refine pd HT_ 36 60 (bm 39 137438953471) ?_;refine pu HT_ 37 61 (bm 39 274877906943) ?_;refine pu HT_ 38 62 (bm 39 549755813887) ?_;refine done_ (done_of HT_.out (by kernel_rfl)) ?_
             try go_wp2
             go_meet
             case rel => exact ⟨_, (false), rs, H', ⟨by have := HJ1.out; have := HK2.out; first | omega | exact Nat.le_refl _⟩, ⟨bl BK358.out⟩, ⟨bl BK361.out⟩, ⟨by exact bb HB.out⟩⟩
            rw [if_neg c22] at H;have c22b0 : (t364 == x19_2) = false := beq_eq_false_iff_ne.mpr c22;have c22b1 : (t364 != x19_2) = true := bne_iff_ne.mpr c22;(first | rw [c22b0] | (simp only [i64_w, i32_w]; rw [c22b0]) | skip);have H' := Aside0.mk H;clear H
            try go_wp2
            obtain ⟨w35, hw_⟩ : ∃ W_, ((((w14.setCell ⟨gb361, 0, none⟩ (.int .i64 ((rd_T38 l0_1 x19_2).f0))).setCell ⟨gb361, 1, none⟩ (.string ((rd_T38 l0_1 x19_2).f1))).setCell ⟨gb361, 2, none⟩ (.int .i64 ((rd_T38 l0_1 x19_2).f2))).setCell ⟨gb361, 3, none⟩ (.string ((rd_T38 l0_1 x19_2).f3))) = W_ := ⟨_, rfl⟩;have hi_ : Lax gb361 w14 w35 := (by rw [← hw_]; infer_instance);have n0_ : Aside0 (w35.heap[gb358]? = some (.cells #[.int .i64 a0_0, .slice (some ad360) l0_1.length c0_1] 25 (0, 0))) := ⟨bx (a := gb361) BK358.out NB358_361.out⟩;have n1_ : Aside0 (w35.heap[gb361]? = some (.cells #[.int .i64 ((rd_T38 l0_1 x19_2).f0), .string ((rd_T38 l0_1 x19_2).f1), .int .i64 ((rd_T38 l0_1 x19_2).f2), .string ((rd_T38 l0_1 x19_2).f3)] 38 (0, 0))) := ⟨by rw [← hw_]; exact (bp BK361.out (by rfl))⟩;have n2_ : Aside0 (Below w.heap.size w w35) := ⟨by exact bbx (a := gb361) HB.out GE361.out⟩;(try clear BK358);(try clear BK361);(try clear HB);clear hi_;(try rw [hw_]);clear hw_;have BK358 := n0_;have BK361 := n1_;have HB := n2_;clear n0_ n1_ n2_;replace BK358 := Aside0.mk (blk_drew BK358.out);replace BK361 := Aside0.mk (blk_drew BK361.out);replace HB := Aside0.mk (below_drew1 HB.out);refine start_ (n := 39) (S := fun w' => w'.cell? ⟨gb361, 0, none⟩ = some (.int .i64 ((rd_T38 l0_1 x19_2).f0)) ∧ w'.cell? ⟨gb361, 1, none⟩ = some (.string ((rd_T38 l0_1 x19_2).f1)) ∧ w'.cell? ⟨gb361, 2, none⟩ = some (.int .i64 ((rd_T38 l0_1 x19_2).f2)) ∧ w'.cell? ⟨gb361, 3, none⟩ = some (.string ((rd_T38 l0_1 x19_2).f3)) ∧ w'.cell? ⟨gb358, 0, none⟩ = some (.int .i64 a0_0) ∧ w'.cell? ⟨gb358, 1, none⟩ = some (.slice (some ad360) l0_1.length c0_1)) (ds := []) (bm 39 0) (by kernel_rfl) rfl rfl ⟨bc BK361 0, bc BK361 1, bc BK361 2, bc BK361 3, bc BK358 0, bc BK358 1⟩ (fun hHeld => ?_); refine with_tabW impl_CatOk.tab6 impl_CatOk.bits6 (fun HT_ HW_ => ?_)
            generalize w35.drew = w36 at BK358 BK361 HB hHeld ⊢;refine pu HT_ 0 24 (bm 39 1) ?_;refine pu HT_ 2 26 (bm 39 5) ?_;refine pu HT_ 4 28 (bm 39 21) ?_;refine tk HT_ HW_ 1 25 (bm 39 23) hHeld ?_;refine tk HT_ HW_ 3 27 (bm 39 31) hHeld ?_;refine tk HT_ HW_ 5 29 (bm 39 63) hHeld ?_;refine on HT_ 6 30 (bm 39 127) (fun K hK => ?_);refine gR Try.func36 #[.int .i64 ((rd_T38 l0_1 x19_2).f0), .string ((rd_T38 l0_1 x19_2).f1), .string ((rd_T38 l0_1 x19_2).f3)] ?_;(with_reducible refine (impl_publishable.calls k2 ((rd_T38 l0_1 x19_2).f0) ((rd_T38 l0_1 x19_2).f1) ((rd_T38 l0_1 x19_2).f3) true _ A17.out).mono ?_);rintro e w' ⟨rfl, ⟨nd, rfl⟩⟩;refine ⟨_, rfl, ?_⟩;refine hK.out _ _ ⟨bc BK361 0, bc BK361 1, bc BK361 2, bc BK361 3, bc BK358 0, bc BK358 1⟩ (fun hHeld => ?_);clear hK K;refine nm 30 ?_;refine pu HT_ 7 31 (bm 39 255) ?_;refine pu HT_ 8 32 (bm 39 511) ?_;refine pu HT_ 9 33 (bm 39 1023) ?_;refine pu HT_ 11 35 (bm 39 3071) ?_;refine tk HT_ HW_ 10 34 (bm 39 4095) hHeld ?_;refine tk HT_ HW_ 12 36 (bm 39 8191) hHeld ?_;refine on HT_ 13 37 (bm 39 16383) (fun K hK => ?_);refine gR Try.func35 #[.int .i64 ((rd_T38 l0_1 x19_2).f2), .int .i64 1, .int .i64 a0_0] ?_;(with_reducible refine (impl_within.calls ((rd_T38 l0_1 x19_2).f2) 1 a0_0 true _ A19.out).mono ?_);rintro e w' ⟨rfl, ⟨nd, rfl⟩⟩;refine ⟨_, rfl, ?_⟩;refine hK.out _ _ ⟨bc BK361 0, bc BK361 1, bc BK361 2, bc BK361 3, bc BK358 0, bc BK358 1⟩ (fun hHeld => ?_);clear hK K;refine nm 37 ?_;refine pu HT_ 14 38 (bm 39 32767) ?_;refine pu HT_ 15 39 (bm 39 65535) ?_;refine pu HT_ 16 40 (bm 39 131071) ?_;refine pu HT_ 18 42 (bm 39 393215) ?_;refine pu HT_ 21 45 (bm 39 2490367) ?_;refine tk HT_ HW_ 17 41 (bm 39 2621439) hHeld ?_;refine tk HT_ HW_ 19 43 (bm 39 3145727) hHeld ?_;refine on HT_ 20 44 (bm 39 4194303) (fun K hK => ?_);refine gR Try.func34 #[.agg #[.int .i64 a0_0, .slice (some ad360) l0_1.length c0_1], .int .i64 ((rd_T38 l0_1 x19_2).f2)] ?_;(with_reducible refine (impl_Cat_edition.calls a0_0 _ _ l0_1 ((rd_T38 l0_1 x19_2).f2) t364 _ ?side1 ?side2 A21.out).mono ?_);(case side1 => repeat (first | exact (Kd.C_below HR0_1.out (by exact bb HB.out)) | (with_reducible refine Kd.C_alloc ?_ _) | (with_reducible refine Kd.C_drewN ?_ _) | (with_reducible refine Kd.C_drew ?_)));(case side2 => exact HC0_1.out);rintro e w37 ⟨rfl, hb⟩;refine ⟨_, rfl, ?_⟩;replace BK358 := kb BK358 hb;replace BK361 := kb BK361 hb;replace HB := hbb HB hb;(try clear hb);(try clear hb2);(try clear hk);(try clear hi);refine hK.out _ _ ⟨bc BK361 0, bc BK361 1, bc BK361 2, bc BK361 3, bc BK358 0, bc BK358 1⟩ (fun hHeld => ?_);clear hK K;refine nm 44 ?_;refine pu HT_ 22 46 (bm 39 8388607) ?_;refine pu HT_ 23 47 (bm 39 16777215) ?_;refine pu HT_ 24 48 (bm 39 33554431) ?_;refine pd HT_ 25 49 (bm 39 67108863) ?_;refine pd HT_ 26 50 (bm 39 134217727) ?_;refine pd HT_ 27 51 (bm 39 268435455) ?_;refine pd HT_ 28 52 (bm 39 536870911) ?_;refine pd HT_ 29 53 (bm 39 1073741823) ?_;refine pd HT_ 30 54 (bm 39 2147483647) ?_;refine pd HT_ 31 55 (bm 39 4294967295) ?_;refine pd HT_ 32 56 (bm 39 8589934591) ?_;refine pd HT_ 33 57 (bm 39 17179869183) ?_;refine pd HT_ 34 58 (bm 39 34359738367) ?_;refine pd HT_ 35 59 (bm 39 68719476735) ?_;refine pd HT_ 36 60 (bm 39 137438953471) ?_;refine pd HT_ 37 61 (bm 39 274877906943) ?_;refine pu HT_ 38 62 (bm 39 549755813887) ?_;refine done_ (done_of HT_.out (by kernel_rfl)) ?_
            try go_wp2
            go_meet
            case rel => exact ⟨_, (true), rs, H', ⟨by have := HJ1.out; have := HK2.out; first | omega | exact Nat.le_refl _⟩, ⟨bl BK358.out⟩, ⟨bl BK361.out⟩, ⟨by exact bb HB.out⟩⟩
           replace c20 := Bool.eq_false_iff.mpr c20;subst c20;rw [if_neg (show ¬ (false = true) by decide)] at H;have H' := Aside0.mk H;clear H
           try go_wp2
           obtain ⟨w38, hw_⟩ : ∃ W_, ((((w14.setCell ⟨gb361, 0, none⟩ (.int .i64 ((rd_T38 l0_1 x19_2).f0))).setCell ⟨gb361, 1, none⟩ (.string ((rd_T38 l0_1 x19_2).f1))).setCell ⟨gb361, 2, none⟩ (.int .i64 ((rd_T38 l0_1 x19_2).f2))).setCell ⟨gb361, 3, none⟩ (.string ((rd_T38 l0_1 x19_2).f3))) = W_ := ⟨_, rfl⟩;have hi_ : Lax gb361 w14 w38 := (by rw [← hw_]; infer_instance);have n0_ : Aside0 (w38.heap[gb358]? = some (.cells #[.int .i64 a0_0, .slice (some ad360) l0_1.length c0_1] 25 (0, 0))) := ⟨bx (a := gb361) BK358.out NB358_361.out⟩;have n1_ : Aside0 (w38.heap[gb361]? = some (.cells #[.int .i64 ((rd_T38 l0_1 x19_2).f0), .string ((rd_T38 l0_1 x19_2).f1), .int .i64 ((rd_T38 l0_1 x19_2).f2), .string ((rd_T38 l0_1 x19_2).f3)] 38 (0, 0))) := ⟨by rw [← hw_]; exact (bp BK361.out (by rfl))⟩;have n2_ : Aside0 (Below w.heap.size w w38) := ⟨by exact bbx (a := gb361) HB.out GE361.out⟩;(try clear BK358);(try clear BK361);(try clear HB);clear hi_;(try rw [hw_]);clear hw_;have BK358 := n0_;have BK361 := n1_;have HB := n2_;clear n0_ n1_ n2_;replace BK358 := Aside0.mk (blk_drew BK358.out);replace BK361 := Aside0.mk (blk_drew BK361.out);replace HB := Aside0.mk (below_drew1 HB.out);refine start_ (n := 39) (S := fun w' => w'.cell? ⟨gb361, 0, none⟩ = some (.int .i64 ((rd_T38 l0_1 x19_2).f0)) ∧ w'.cell? ⟨gb361, 1, none⟩ = some (.string ((rd_T38 l0_1 x19_2).f1)) ∧ w'.cell? ⟨gb361, 2, none⟩ = some (.int .i64 ((rd_T38 l0_1 x19_2).f2)) ∧ w'.cell? ⟨gb361, 3, none⟩ = some (.string ((rd_T38 l0_1 x19_2).f3)) ∧ w'.cell? ⟨gb358, 0, none⟩ = some (.int .i64 a0_0) ∧ w'.cell? ⟨gb358, 1, none⟩ = some (.slice (some ad360) l0_1.length c0_1)) (ds := []) (bm 39 0) (by kernel_rfl) rfl rfl ⟨bc BK361 0, bc BK361 1, bc BK361 2, bc BK361 3, bc BK358 0, bc BK358 1⟩ (fun hHeld => ?_); refine with_tabW impl_CatOk.tab6 impl_CatOk.bits6 (fun HT_ HW_ => ?_)
           generalize w38.drew = w39 at BK358 BK361 HB hHeld ⊢;refine pu HT_ 0 24 (bm 39 1) ?_;refine pu HT_ 2 26 (bm 39 5) ?_;refine pu HT_ 4 28 (bm 39 21) ?_;refine tk HT_ HW_ 1 25 (bm 39 23) hHeld ?_;refine tk HT_ HW_ 3 27 (bm 39 31) hHeld ?_;refine tk HT_ HW_ 5 29 (bm 39 63) hHeld ?_;refine on HT_ 6 30 (bm 39 127) (fun K hK => ?_);refine gR Try.func36 #[.int .i64 ((rd_T38 l0_1 x19_2).f0), .string ((rd_T38 l0_1 x19_2).f1), .string ((rd_T38 l0_1 x19_2).f3)] ?_;(with_reducible refine (impl_publishable.calls k2 ((rd_T38 l0_1 x19_2).f0) ((rd_T38 l0_1 x19_2).f1) ((rd_T38 l0_1 x19_2).f3) true _ A17.out).mono ?_);rintro e w' ⟨rfl, ⟨nd, rfl⟩⟩;refine ⟨_, rfl, ?_⟩;refine hK.out _ _ ⟨bc BK361 0, bc BK361 1, bc BK361 2, bc BK361 3, bc BK358 0, bc BK358 1⟩ (fun hHeld => ?_);clear hK K;refine nm 30 ?_;refine pu HT_ 7 31 (bm 39 255) ?_;refine pu HT_ 8 32 (bm 39 511) ?_;refine pu HT_ 9 33 (bm 39 1023) ?_;refine pu HT_ 11 35 (bm 39 3071) ?_;refine tk HT_ HW_ 10 34 (bm 39 4095) hHeld ?_;refine tk HT_ HW_ 12 36 (bm 39 8191) hHeld ?_;refine on HT_ 13 37 (bm 39 16383) (fun K hK => ?_);refine gR Try.func35 #[.int .i64 ((rd_T38 l0_1 x19_2).f2), .int .i64 1, .int .i64 a0_0] ?_;(with_reducible refine (impl_within.calls ((rd_T38 l0_1 x19_2).f2) 1 a0_0 false _ A19.out).mono ?_);rintro e w' ⟨rfl, ⟨nd, rfl⟩⟩;refine ⟨_, rfl, ?_⟩;refine hK.out _ _ ⟨bc BK361 0, bc BK361 1, bc BK361 2, bc BK361 3, bc BK358 0, bc BK358 1⟩ (fun hHeld => ?_);clear hK K;refine nm 37 ?_;refine pu HT_ 14 38 (bm 39 32767) ?_;refine pu HT_ 15 39 (bm 39 65535) ?_;refine pu HT_ 16 40 (bm 39 131071) ?_;refine pd HT_ 17 41 (bm 39 262143) ?_;refine pd HT_ 18 42 (bm 39 524287) ?_;refine pd HT_ 19 43 (bm 39 1048575) ?_;refine pd HT_ 20 44 (bm 39 2097151) ?_;refine pd HT_ 21 45 (bm 39 4194303) ?_;refine pd HT_ 22 46 (bm 39 8388607) ?_;refine pu HT_ 23 47 (bm 39 16777215) ?_;refine pu HT_ 24 48 (bm 39 33554431) ?_;refine pd HT_ 25 49 (bm 39 67108863) ?_;refine pd HT_ 26 50 (bm 39 134217727) ?_;refine pd HT_ 27 51 (bm 39 268435455) ?_;refine pd HT_ 28 52 (bm 39 536870911) ?_;refine pd HT_ 29 53 (bm 39 1073741823) ?_;refine pd HT_ 30 54 (bm 39 2147483647) ?_;refine pd HT_ 31 55 (bm 39 4294967295) ?_;refine pd HT_ 32 56 (bm 39 8589934591) ?_;refine pd HT_ 33 57 (bm 39 17179869183) ?_;refine pd HT_ 34 58 (bm 39 34359738367) ?_;refine pd HT_ 35 59 (bm 39 68719476735) ?_;refine pd HT_ 36 60 (bm 39 137438953471) ?_;refine pd HT_ 37 61 (bm 39 274877906943) ?_;refine pu HT_ 38 62 (bm 39 549755813887) ?_;refine done_ (done_of HT_.out (by kernel_rfl)) ?_
           try go_wp2
           go_meet
           case rel => exact ⟨_, (true), rs, H', ⟨by have := HJ1.out; have := HK2.out; first | omega | exact Nat.le_refl _⟩, ⟨bl BK358.out⟩, ⟨bl BK361.out⟩, ⟨by exact bb HB.out⟩⟩
          replace c18 := Bool.eq_false_iff.mpr c18;subst c18;rw [if_neg (show ¬ (false = true) by decide)] at H;have H' := Aside0.mk H;clear H
          try go_wp2
          obtain ⟨w40, hw_⟩ : ∃ W_, ((((w14.setCell ⟨gb361, 0, none⟩ (.int .i64 ((rd_T38 l0_1 x19_2).f0))).setCell ⟨gb361, 1, none⟩ (.string ((rd_T38 l0_1 x19_2).f1))).setCell ⟨gb361, 2, none⟩ (.int .i64 ((rd_T38 l0_1 x19_2).f2))).setCell ⟨gb361, 3, none⟩ (.string ((rd_T38 l0_1 x19_2).f3))) = W_ := ⟨_, rfl⟩;have hi_ : Lax gb361 w14 w40 := (by rw [← hw_]; infer_instance);have n0_ : Aside0 (w40.heap[gb358]? = some (.cells #[.int .i64 a0_0, .slice (some ad360) l0_1.length c0_1] 25 (0, 0))) := ⟨bx (a := gb361) BK358.out NB358_361.out⟩;have n1_ : Aside0 (w40.heap[gb361]? = some (.cells #[.int .i64 ((rd_T38 l0_1 x19_2).f0), .string ((rd_T38 l0_1 x19_2).f1), .int .i64 ((rd_T38 l0_1 x19_2).f2), .string ((rd_T38 l0_1 x19_2).f3)] 38 (0, 0))) := ⟨by rw [← hw_]; exact (bp BK361.out (by rfl))⟩;have n2_ : Aside0 (Below w.heap.size w w40) := ⟨by exact bbx (a := gb361) HB.out GE361.out⟩;(try clear BK358);(try clear BK361);(try clear HB);clear hi_;(try rw [hw_]);clear hw_;have BK358 := n0_;have BK361 := n1_;have HB := n2_;clear n0_ n1_ n2_;replace BK358 := Aside0.mk (blk_drew BK358.out);replace BK361 := Aside0.mk (blk_drew BK361.out);replace HB := Aside0.mk (below_drew1 HB.out);refine start_ (n := 39) (S := fun w' => w'.cell? ⟨gb361, 0, none⟩ = some (.int .i64 ((rd_T38 l0_1 x19_2).f0)) ∧ w'.cell? ⟨gb361, 1, none⟩ = some (.string ((rd_T38 l0_1 x19_2).f1)) ∧ w'.cell? ⟨gb361, 2, none⟩ = some (.int .i64 ((rd_T38 l0_1 x19_2).f2)) ∧ w'.cell? ⟨gb361, 3, none⟩ = some (.string ((rd_T38 l0_1 x19_2).f3))) (ds := []) (bm 39 0) (by kernel_rfl) rfl rfl ⟨bc BK361 0, bc BK361 1, bc BK361 2, bc BK361 3⟩ (fun hHeld => ?_); refine with_tabW impl_CatOk.tab6 impl_CatOk.bits6 (fun HT_ HW_ => ?_)
          generalize w40.drew = w41 at BK358 BK361 HB hHeld ⊢;refine pu HT_ 0 24 (bm 39 1) ?_;refine pu HT_ 2 26 (bm 39 5) ?_;refine pu HT_ 4 28 (bm 39 21) ?_;refine tk HT_ HW_ 1 25 (bm 39 23) hHeld ?_;refine tk HT_ HW_ 3 27 (bm 39 31) hHeld ?_;refine tk HT_ HW_ 5 29 (bm 39 63) hHeld ?_;refine on HT_ 6 30 (bm 39 127) (fun K hK => ?_);refine gR Try.func36 #[.int .i64 ((rd_T38 l0_1 x19_2).f0), .string ((rd_T38 l0_1 x19_2).f1), .string ((rd_T38 l0_1 x19_2).f3)] ?_;(with_reducible refine (impl_publishable.calls k2 ((rd_T38 l0_1 x19_2).f0) ((rd_T38 l0_1 x19_2).f1) ((rd_T38 l0_1 x19_2).f3) false _ A17.out).mono ?_);rintro e w' ⟨rfl, ⟨nd, rfl⟩⟩;refine ⟨_, rfl, ?_⟩;refine hK.out _ _ ⟨bc BK361 0, bc BK361 1, bc BK361 2, bc BK361 3⟩ (fun hHeld => ?_);clear hK K;refine nm 30 ?_;refine pu HT_ 7 31 (bm 39 255) ?_;refine pu HT_ 8 32 (bm 39 511) ?_;refine pd HT_ 9 33 (bm 39 1023) ?_;refine pd HT_ 10 34 (bm 39 2047) ?_;refine pd HT_ 11 35 (bm 39 4095) ?_;refine pd HT_ 12 36 (bm 39 8191) ?_;refine pd HT_ 13 37 (bm 39 16383) ?_;refine pd HT_ 14 38 (bm 39 32767) ?_;refine pu HT_ 15 39 (bm 39 65535) ?_;refine pu HT_ 16 40 (bm 39 131071) ?_;refine pd HT_ 17 41 (bm 39 262143) ?_;refine pd HT_ 18 42 (bm 39 524287) ?_;refine pd HT_ 19 43 (bm 39 1048575) ?_;refine pd HT_ 20 44 (bm 39 2097151) ?_;refine pd HT_ 21 45 (bm 39 4194303) ?_;refine pd HT_ 22 46 (bm 39 8388607) ?_;refine pu HT_ 23 47 (bm 39 16777215) ?_;refine pu HT_ 24 48 (bm 39 33554431) ?_;refine pd HT_ 25 49 (bm 39 67108863) ?_;refine pd HT_ 26 50 (bm 39 134217727) ?_;refine pd HT_ 27 51 (bm 39 268435455) ?_;refine pd HT_ 28 52 (bm 39 536870911) ?_;refine pd HT_ 29 53 (bm 39 1073741823) ?_;refine pd HT_ 30 54 (bm 39 2147483647) ?_;refine pd HT_ 31 55 (bm 39 4294967295) ?_;refine pd HT_ 32 56 (bm 39 8589934591) ?_;refine pd HT_ 33 57 (bm 39 17179869183) ?_;refine pd HT_ 34 58 (bm 39 34359738367) ?_;refine pd HT_ 35 59 (bm 39 68719476735) ?_;refine pd HT_ 36 60 (bm 39 137438953471) ?_;refine pd HT_ 37 61 (bm 39 274877906943) ?_;refine pu HT_ 38 62 (bm 39 549755813887) ?_;refine done_ (done_of HT_.out (by kernel_rfl)) ?_
          try go_wp2
          go_meet
          case rel => exact ⟨_, (true), rs, H', ⟨by have := HJ1.out; have := HK2.out; first | omega | exact Nat.le_refl _⟩, ⟨bl BK358.out⟩, ⟨bl BK361.out⟩, ⟨by exact bb HB.out⟩⟩
         case rest =>
          clear HC13;(try clear c1);(try clear c2);(try clear p2);(try clear c3);(try clear c18);(try clear c20);(try clear c35);(try clear c36);obtain ⟨kq, x62_12, rfl, HA, HJ12, BK358, BK361, HB⟩ := hcut
          cases kq with
          | zero => exact absurd HA.out (by simp [impl_CatOk.j2])
          | succ kj12 =>
           have H := HA.out;clear HA;simp only [impl_CatOk.j2] at H
           by_cases c42 : x62_12 = true
           ·subst c42;rw [if_pos rfl] at H;obtain rfl := Option.some.inj H;go_wp2;go_ret;exact ⟨by first | rfl | (simp [errW_none, errW_some] <;> rfl) | (simp [*, errW_none, errW_some] <;> rfl), by exact bb HB.out⟩
           replace c42 := Bool.eq_false_iff.mpr c42;subst c42;rw [if_neg (show ¬ (false = true) by decide)] at H;have H' := Aside0.mk H;clear H;go_wp2
           go_roundg kj12
           case measure => have := HJ1.out; have := HK2.out; have := HJ12.out; omega
           case rel => exact ⟨(wrap64 (x19_2 + 1)), rs, H', ⟨by have := HJ1.out; have := HK2.out; have := HJ12.out; omega⟩, ⟨bl BK358.out⟩, ⟨by exact bb HB.out⟩⟩
        rw [if_neg c12] at H;exact absurd H (by simp)
       rw [if_neg c11] at H;exact absurd H (by simp)
      ·rw [if_neg c10] at H;have c10b0 : decide (x19_2 < (l0_1.length : Int)) = false := decide_eq_false c10;clear c10;have H' := Aside0.mk H;clear H;go_wp2
       go_loopg [64] k2 (fun kq v64 w' => ∃ (x64_3 : Int), v64 = .int .i64 x64_3 ∧ Aside0 (impl_CatOk.l1 kq x64_3 a0_0 l0_1 = some r) ∧ Aside0 (kq ≤ k2) ∧ Aside0 (w'.heap[gb358]? = some (.cells #[.int .i64 a0_0, (.slice A0_1 l0_1.length c0_1)] 25 (0, 0))) ∧ Aside0 (Below w.heap.size w w'))
       case atStart => exact ⟨(0), rs, H', ⟨Nat.le_refl _⟩, ⟨bl BK358.out⟩, ⟨by exact bb HB.out⟩⟩
       case round =>
        clear H';(try clear c1);(try clear c2);(try clear p2);(try clear c3);(try clear c4);(try clear p6);(try clear c10);(try clear c10b0);(try clear c11);(try clear c12);(try clear c18);(try clear c20);(try clear c35);(try clear c36);(try clear c42);(try clear p2);obtain ⟨x64_3, rfl, HA, HK3, BK358, HB⟩ := hrel
        cases gk with
        | zero => exact absurd HA.out (by simp [impl_CatOk.l1])
        | succ k3 =>
         have H := HA.out;clear HA;simp only [impl_CatOk.l1] at H
         by_cases c43 : x64_3 < 2
         ·rw [if_pos c43] at H;have c43b0 : decide (x64_3 < 2) = true := decide_eq_true c43;clear c43;replace H := Option.bind_eq_some_iff.mp H;obtain ⟨t367, A440, H⟩ := H;have A44 := Aside0.mk A440;clear A440
          by_cases c45 : t367 > 500
          ·rw [if_pos c45] at H;have c45b0 : decide (500 < t367) = true := decide_eq_true c45;clear c45;obtain rfl := Option.some.inj H;obtain ⟨hcz46_0, hcz46_1, hfz46_0, hfz46_1⟩ := c2 BK358;go_wp2_with (first | ((with_reducible refine gate_callee (f := 31) rfl ?_); refine gL 69 Try.func31 #[.agg #[.int .i64 a0_0, .slice A0_1 l0_1.length c0_1], .int .i64 x64_3] ?_; (with_reducible refine (impl_Cat_bytes.calls k3 a0_0 _ _ l0_1 x64_3 t367 _ ?side1 ?side2 A44.out).mono ?_); (case side1 => repeat (first | exact (Kd.C_below HR0_1.out HB.out) | (with_reducible refine Kd.C_alloc ?_ _) | (with_reducible refine Kd.C_drewN ?_ _) | (with_reducible refine Kd.C_drew ?_))); (case side2 => exact HC0_1.out); rintro e w47 ⟨rfl, hb⟩; refine ⟨_, rfl, ?_⟩; replace BK358 := kb BK358 hb; replace HB := hbb HB hb; (try clear hb); (try clear hb2); (try clear hk); (try clear hi)));go_ret;exact ⟨by first | rfl | (simp [errW_none, errW_some] <;> rfl) | (simp [*, errW_none, errW_some] <;> rfl), by exact bb HB.out⟩
          rw [if_neg c45] at H;have c45b0 : decide (500 < t367) = false := decide_eq_false c45;clear c45;have H' := Aside0.mk H;clear H;obtain ⟨hcz48_0, hcz48_1, hfz48_0, hfz48_1⟩ := c2 BK358;go_wp2_with (first | ((with_reducible refine gate_callee (f := 31) rfl ?_); refine gL 69 Try.func31 #[.agg #[.int .i64 a0_0, .slice A0_1 l0_1.length c0_1], .int .i64 x64_3] ?_; (with_reducible refine (impl_Cat_bytes.calls k3 a0_0 _ _ l0_1 x64_3 t367 _ ?side1 ?side2 A44.out).mono ?_); (case side1 => repeat (first | exact (Kd.C_below HR0_1.out HB.out) | (with_reducible refine Kd.C_alloc ?_ _) | (with_reducible refine Kd.C_drewN ?_ _) | (with_reducible refine Kd.C_drew ?_))); (case side2 => exact HC0_1.out); rintro e w49 ⟨rfl, hb⟩; refine ⟨_, rfl, ?_⟩; replace BK358 := kb BK358 hb; replace HB := hbb HB hb; (try clear hb); (try clear hb2); (try clear hk); (try clear hi)))
          go_roundg k3
          case measure => have := HJ1.out; have := HK2.out; have := HK3.out; omega
          case rel => exact ⟨(wrap64 (x64_3 + 1)), rs, H', ⟨by have := HJ1.out; have := HK2.out; have := HK3.out; omega⟩, ⟨bl BK358.out⟩, ⟨by exact bb HB.out⟩⟩
         rw [if_neg c43] at H;have c43b0 : decide (x64_3 < 2) = false := decide_eq_false c43;clear c43;obtain rfl := Option.some.inj H;go_wp2;go_ret;exact ⟨by first | rfl | (simp [errW_none, errW_some] <;> rfl) | (simp [*, errW_none, errW_some] <;> rfl), by exact bb HB.out⟩
-- BY HAND: impl_Cat_find: function 33
def impl_cloneCat.f (a0_0 : Int) (l0_1 : List (S38)) : Option (Int × (List (S38))) := (some (([] : List (S38)) : List (S38))).bind fun y370 => (if y370.length + l0_1.length < 2932031007402 then (some (a0_0, (y370 ++ l0_1))) else (none))
def impl_cloneCat.T1 : Bool × List (List Nat × List Nat) := (true, [([], []), ([0], [0]), ([], []), ([], []), ([3], [3]), ([2, 4], [2, 4]), ([1, 5], [1, 5]), ([6, 5, 0, 1, 2, 3, 4, 5, 6], [6])])
def impl_cloneCat.B1 : List Nat := [0, 1, 0, 0, 8, 28, 63, 127]
theorem impl_cloneCat.tab1 : rtab .any (opsOf Try.f39 1) = impl_cloneCat.T1 := by kernel_rfl
theorem impl_cloneCat.bits1 : waitsOk impl_cloneCat.T1.2 impl_cloneCat.B1 = true := by kernel_rfl
set_option maxHeartbeats 8000000 in
set_option maxRecDepth 100000 in
theorem impl_cloneCat.calls (a0_0 : Int) (A0_1 : Option Addr) (c0_1 : Nat) (l0_1 : List (S38)) (r1 : Int) (r2 : List (S38)) (w : World) (hr0_1 : Kd.C k38 w A0_1 l0_1.length l0_1) (hc0_1 : l0_1.length ≤ c0_1) (h : impl_cloneCat.f a0_0 l0_1 = some (r1, r2)) :
  Calls Try.prog 39 #[.agg #[.int .i64 a0_0, .slice A0_1 l0_1.length c0_1]] w fun e w' => ∃ v1_ : Value, e = .returned (.agg #[.int .i64 r1, v1_]) ∧ Kd.R k38 38 w' w.heap.size (fun _ => True) v1_ r2 ∧ Below w.heap.size w w' := by
 have hu25 := Try.underlying25;have HR0_1 := Aside0.mk hr0_1;have HC0_1 := Aside0.mk hc0_1;clear hr0_1 hc0_1;have HB := Aside0.mk (Below.refl w.heap.size w);have H : ((some (([] : List (S38)) : List (S38))).bind fun y370 => (if y370.length + l0_1.length < 2932031007402 then (some (a0_0, (y370 ++ l0_1))) else (none))) = some (r1, r2) := h;clear h;obtain ⟨y370, hy370⟩ : ∃ y_ : List (S38), y_ = (([] : List (S38))) := ⟨_, rfl⟩;replace H : (if y370.length + l0_1.length < 2932031007402 then (some (a0_0, (y370 ++ l0_1))) else (none)) = some (r1, r2) := by first | (rw [hy370]; with_reducible exact H) | (have H2_ := (Option.bind_some _ _).symm.trans H; rw [hy370]; with_reducible exact H2_) | (have H2_ := (Option.bind_some _ _).symm.trans H; with_reducible exact H2_) | with_reducible exact H | (rw [hy370]; exact H) | exact H
 have Ny370 := Aside0.mk hy370;clear hy370
 by_cases c2 : y370.length + l0_1.length < 2932031007402
 ·rw [if_pos c2] at H;have LMc2 := Aside0.mk c2;clear c2;obtain ⟨y373, hy373⟩ : ∃ y_ : List (S38), y_ = (y370 ++ l0_1) := ⟨_, rfl⟩;replace H : (some (a0_0, y373)) = some (r1, r2) := by first | (rw [hy373]; with_reducible exact H) | (have H2_ := (Option.bind_some _ _).symm.trans H; rw [hy373]; with_reducible exact H2_) | (have H2_ := (Option.bind_some _ _).symm.trans H; with_reducible exact H2_) | with_reducible exact H | (rw [hy373]; exact H) | exact H
  have Ny373 := Aside0.mk hy373;clear hy373;simp only [Option.some.injEq, Prod.mk.injEq] at H;obtain ⟨rfl, rfl⟩ := H
  go_enter Try.func39, Try.ntmps39
  try go_wp2_with (first | ((with_reducible refine gate_dst (N := 1) rfl ?_); refine bv 1 #[.int .i64 a0_0, .slice A0_1 l0_1.length c0_1] 25 ?_; intro gb368 hg w3 hbox hb; have BK368 := Aside0.mk (hbox); have GW368 := gw HB hg; have GE368 := gw HB hg; replace HB := hbb HB hb; clear hb hbox hg) | ((with_reducible refine gate_dst (N := 2) rfl ?_); refine bv 2 #[.int .i64 0, .slice none 0 0] 25 ?_; intro gb369 hg w4 hbox hb; have BK369 := Aside0.mk (hbox); have GW369 := gw HB hg; have GE369 := gw HB hg; have NB368_369 := nl BK368 hg; have NB369_368 := ng BK368 hg; replace BK368 := kb BK368 hb; replace HB := hbb HB hb; clear hb hbox hg))
  replace BK368 := Aside0.mk (blk_drew BK368.out);replace BK369 := Aside0.mk (blk_drew BK369.out);replace HB := Aside0.mk (below_drew1 HB.out);refine start_ (n := 8) (S := fun w' => w'.cell? ⟨gb368, 0, none⟩ = some (.int .i64 a0_0) ∧ w'.cell? ⟨gb368, 1, none⟩ = some (.slice A0_1 l0_1.length c0_1)) (ds := []) (bm 8 0) (by kernel_rfl) rfl rfl ⟨bc BK368 0, bc BK368 1⟩ (fun hHeld => ?_); refine with_tabW impl_cloneCat.tab1 impl_cloneCat.bits1 (fun HT_ HW_ => ?_)
  generalize w4.drew = w5 at BK368 BK369 HB hHeld ⊢;refine pu HT_ 0 3 (bm 8 1) ?_;refine pu HT_ 3 6 (bm 8 9) ?_;refine tk HT_ HW_ 1 4 (bm 8 11) hHeld ?_;refine tk HT_ HW_ 4 7 (bm 8 27) hHeld ?_;refine on HT_ 2 5 (bm 8 31) (fun K hK => ?_);refine rS k38 38 5 ([] : List (S38)) [] ?_;intro v371 w6 ho7 hb hg_ hnew_;clear hg_ hnew_;(first | rw [← Ny370.out] at ho7 | (simp only [Int.reduceToNat] at ho7; rw [← Ny370.out] at ho7));have HO372 := Aside0.mk (Kd.R_lower ho7 (below_size (by exact bb HB.out)));replace BK368 := kb BK368 hb;replace BK369 := kb BK369 hb;replace HB := hbb HB hb;clear hb ho7;refine hK.out _ _ ⟨bc BK368 0, bc BK368 1⟩ (fun hHeld => ?_);clear hK K;refine nm 5 ?_;refine on HT_ 5 8 (bm 8 63) (fun K hK => ?_);refine Kd.R_append_rows_step k38 (w0 := w) w.heap.size (by rfl) (.tmp 5) (.tmp 7) 23 38 (.agg #[(.int .i64 0), (.string ⟨#[]⟩), (.int .i64 0), (.string ⟨#[]⟩)]) 48 rfl Try.underlying23 info38 rfl (by decide) (by omega) v371 y370 l0_1 _ _ _ (fun _ => True) (fun _ => False) rfl rfl ?aO ?aR (fun _ _ h => h) (fun _ h => h.elim) ?aF ?aB ?aS ?aL ?_;(case aR => repeat (first | exact (Kd.C_below HR0_1.out HB.out) | (with_reducible refine Kd.C_alloc ?_ _) | (with_reducible refine Kd.C_drewN ?_ _) | (with_reducible refine Kd.C_drew ?_)));(case aB => exact (by exact bb HB.out));(case aF => exact (fun _ _ => trivial));(case aO => exact (by exact rl HO372));(case aS => exact (below_size (by exact bb HB.out)));(case aL => have := LMc2.out; omega);intro v374 w8 ho hb hg hat;rw [← Ny373.out] at ho;have HO375 := Aside0.mk (ho);replace BK368 := Aside0.mk (blk_grown (bl BK368.out) hg (Kd.R_ne HO372.out BK368.out (by decide)));replace BK369 := Aside0.mk (blk_grown (bl BK369.out) hg (Kd.R_ne HO372.out BK369.out (by decide)));replace HB := Aside0.mk (hb);clear HO372;clear ho hb hg hat;obtain ⟨Ao9, co9, eo9⟩ := Kd.R_slice HO375.out;(first | subst eo9 | (injection eo9 with f1_ f2_ f3_; have f4_ := f1_.symm; have f5_ := f3_.symm; clear f1_ f2_ f3_; subst f4_; subst f5_));refine hK.out _ _ ⟨bc BK368 0, bc BK368 1⟩ (fun hHeld => ?_);clear hK K;refine nm 8 ?_;refine pu HT_ 6 9 (bm 8 127) ?_;refine one_ (i := 7) (N := none) (bm 8 255) rfl rfl (one_of HT_.out (by kernel_rfl)) (by decide) (fun K hK => ?_);have hs10 : w8.cell? ⟨gb369, 0, none⟩ = some (.int .i64 0) := bc BK369 0;have hfs10 := blk_frozen BK369.out 0;have hns10_0 := NB368_369.out;have hms10_0 := NB369_368.out;have hs11 : w8.cell? ⟨gb369, 1, none⟩ = some (.slice none 0 0) := bc BK369 1;have hfs11 := blk_frozen BK369.out 1;have hns11_0 := NB368_369.out;have hms11_0 := NB369_368.out;refine skip_ (w1 := ?_) (by rfl) rfl ?_ ?_;rotate_left
  ·go_simp;rfl
  refine hK.out _ _ ⟨((cell_far (p := ⟨gb369, _, none⟩) NB368_369.out _).trans (((cell_far (p := ⟨gb369, _, none⟩) NB368_369.out _).trans (hHeld.1)))), ((cell_far (p := ⟨gb369, _, none⟩) NB368_369.out _).trans (((cell_far (p := ⟨gb369, _, none⟩) NB368_369.out _).trans (hHeld.2))))⟩ (fun hHeld => ?_);clear hK K;refine done_ (done_of HT_.out (by kernel_rfl)) ?_
  try go_wp2
  refine bodyPost_ret (results_cell_row rfl _ _ gb369 25 #[.int .i64 a0_0, .slice Ao9 y373.length co9] (0, 0) _ rfl (bp BK369.out (by rfl)) Try.underlying25 rfl (by kernel_rfl)) rfl ?_;exact ⟨_, by first | rfl | (simp [errW_none, errW_some] <;> rfl) | (simp [*, errW_none, errW_some] <;> rfl), by exact Kd.R_mono (Kd.R_lax (g := gb369) (Kd.R_types HO375.out BK369.out (by decide)) (fun _ hk => hk.2)) (fun _ hk => trivial), by exact bbx (a := gb369) HB.out GE369.out⟩
 rw [if_neg c2] at H;exact absurd H (by simp)
-- BY HAND: slices_SortFunc_Item: function 40
end Go.Proofs.Ytoohbmoljdfbjaa.P
