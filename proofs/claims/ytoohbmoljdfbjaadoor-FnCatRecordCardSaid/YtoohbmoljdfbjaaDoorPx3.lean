-- made by wip/prt/pp.py over the kit's print
import Derived.Test.YtoohbmoljdfbjaaDoorPx0
import Derived.Test.YtoohbmoljdfbjaaDoorGlob
import Derived.Test.YtoohbmoljdfbjaaDoorLib
namespace Go.Proofs.YtoohbmoljdfbjaaDoor.P
open Go.RowKit Go.Proofs.YtoohbmoljdfbjaaDoorW.PrintWords Go.Proofs.YtoohbmoljdfbjaaDoorW.PrintLast Go.Proofs.YtoohbmoljdfbjaaDoorW.PrintMore
attribute [local go_sem] max2_int min2_int max_two min_two max_three min_three max_four min_four   -- for this text's walks alone
set_option linter.unusedVariables false
set_option linter.unusedSimpArgs false
def impl_within.f (a0 : Int) (a1 : Int) (a2 : Int) : Option (Bool) := if a0 ≥ a1 then (some (decide (a0 ≤ a2))) else (some false)
set_option maxHeartbeats 8000000 in
set_option maxRecDepth 100000 in
theorem impl_within.calls (a0 : Int) (a1 : Int) (a2 : Int) (r : Bool) (w : World) (h : impl_within.f a0 a1 a2 = some r) :
  Calls Tryd.prog 21 #[.int .i64 a0, .int .i64 a1, .int .i64 a2] w fun e w' => e = .returned (.bool r) ∧ Drawn0 w w' := by
 have H : (if a0 ≥ a1 then (some (decide (a0 ≤ a2))) else (some false)) = some r := h;clear h
 by_cases c4 : a0 ≥ a1
 ·rw [if_pos c4] at H;have c4b0 : decide (a1 ≤ a0) = true := decide_eq_true c4;clear c4;obtain rfl := Option.some.inj H
  go_enter Tryd.func21, Tryd.ntmps21
  go_wp2;go_ret;exact ⟨by first | rfl | (simp; done) | (simp [*]; done), by repeat (first | exact Drawn0.refl _ | apply Drawn0.step)⟩
 rw [if_neg c4] at H;have c4b0 : decide (a1 ≤ a0) = false := decide_eq_false c4;clear c4;obtain rfl := Option.some.inj H
 go_enter Tryd.func21, Tryd.ntmps21
 go_wp2;go_ret;exact ⟨by first | rfl | (simp; done) | (simp [*]; done), by repeat (first | exact Drawn0.refl _ | apply Drawn0.step)⟩
def impl_house.f (a0 : Int) : Option (Bool) := (impl_within.f a0 0 1).bind fun t132 => (some t132)
set_option maxHeartbeats 8000000 in
set_option maxRecDepth 100000 in
theorem impl_house.calls (a0 : Int) (r : Bool) (w : World) (h : impl_house.f a0 = some r) :
  Calls Tryd.prog 13 #[.int .i64 a0] w fun e w' => e = .returned (.bool r) ∧ Drawn0 w w' := by
 have H : ((impl_within.f a0 0 1).bind fun t132 => (some t132)) = some r := h;clear h;replace H := Option.bind_eq_some_iff.mp H;obtain ⟨t132, A20, H⟩ := H;have A2 := Aside0.mk A20;clear A20;obtain rfl := Option.some.inj H
 go_enter Tryd.func13, Tryd.ntmps13
 go_wp2_with (first | ((with_reducible refine gate_callee (f := 21) rfl ?_); refine gL 4 Tryd.func21 #[.int .i64 a0, .int .i64 0, .int .i64 1] ?_; (with_reducible refine (impl_within.calls a0 0 1 t132 _ A2.out).mono ?_); rintro e w' ⟨rfl, ⟨nd, rfl⟩⟩; refine ⟨_, rfl, ?_⟩));go_ret;exact ⟨by first | rfl | (simp; done) | (simp [*]; done), by repeat (first | exact Drawn0.refl _ | apply Drawn0.step)⟩
mutual
def impl_NameOk.l0 : Nat → ByteArray → Int → Int → Option (Bool)
 | 0, _, _, _ => none
 | k + 1, x0, x5, x6 => if x6 < x5 then (if 0 ≤ x6 then (if x6 < (x0.size : Int) then (if (bt x0 x6) < 97 then (impl_NameOk.j1 k x0 x5 x6 true) else (impl_NameOk.j1 k x0 x5 x6 (decide ((bt x0 x6) > 122)))) else (none)) else (none)) else ((impl_within.f (x0.size : Int) 1 6).bind fun t133 => (some t133))
def impl_NameOk.j1 : Nat → ByteArray → Int → Int → Bool → Option (Bool)
 | 0, _, _, _, _ => none
 | k + 1, x0, x5, x6, x18 => if x18 = true then (some false) else (impl_NameOk.l0 k x0 x5 (wrap64 (x6 + 1)))
end
def impl_NameOk.f (k : Nat) (a0 : ByteArray) : Option (Bool) := impl_NameOk.l0 k a0 (a0.size : Int) 0
theorem impl_NameOk.mono_l : ∀ k, (∀ y0 y1 y2, LeO (impl_NameOk.l0 k y0 y1 y2) (impl_NameOk.l0 (k + 1) y0 y1 y2)) ∧ (∀ y0 y1 y2 y3, LeO (impl_NameOk.j1 k y0 y1 y2 y3) (impl_NameOk.j1 (k + 1) y0 y1 y2 y3))
 | 0 => ⟨fun _ _ _ r h => by simp [impl_NameOk.l0] at h, fun _ _ _ _ r h => by simp [impl_NameOk.j1] at h⟩
 | k + 1 => by
  obtain ⟨ih0, ih1⟩ := impl_NameOk.mono_l k;refine ⟨?_, ?_⟩;intro y0 y1 y2; unfold impl_NameOk.l0; rotate_left
  intro y0 y1 y2 y3; unfold impl_NameOk.j1; rotate_left
  all_goals repeat' first
   | (with_reducible exact ih0 _ _ _)
   | (with_reducible exact ih1 _ _ _ _)
   | (with_reducible exact LeO.refl _)
   | (with_reducible exact LeO.none _)
   | (with_reducible refine LeO.ite ?_ ?_)
   | (with_reducible refine LeO.bind ?_ (fun _ => ?_))
   | exact LeO.none _
   | refine LeO.ite ?_ ?_
   | refine LeO.bind ?_ (fun _ => ?_)
theorem impl_NameOk.mono : ∀ a0 k, LeO (impl_NameOk.f k a0) (impl_NameOk.f (k + 1) a0) := by
 intro a0 k;obtain ⟨ih0, ih1⟩ := impl_NameOk.mono_l k;unfold impl_NameOk.f
 repeat' first
   | (with_reducible exact ih0 _ _ _)
   | (with_reducible exact ih1 _ _ _ _)
   | (with_reducible exact LeO.refl _)
   | (with_reducible exact LeO.none _)
   | (with_reducible refine LeO.ite ?_ ?_)
   | (with_reducible refine LeO.bind ?_ (fun _ => ?_))
   | exact LeO.none _
   | refine LeO.ite ?_ ?_
   | refine LeO.bind ?_ (fun _ => ?_)
set_option maxHeartbeats 8000000 in
set_option maxRecDepth 100000 in
theorem impl_NameOk.calls (k : Nat) (a0 : ByteArray) (r : Bool) (w : World) (h : impl_NameOk.f k a0 = some r) :
  Calls Tryd.prog 14 #[.string a0] w fun e w' => e = .returned (.bool r) ∧ Drawn0 w w' := by
 have H : (impl_NameOk.l0 k a0 (a0.size : Int) 0) = some r := h;clear h;have H' := Aside0.mk H;clear H
 go_enter Tryd.func14, Tryd.ntmps14
 go_wp2
 go_loopg [6] k (fun kq v6 w' => ∃ (x6_1 : Int), v6 = .int .i64 x6_1 ∧ Aside0 (impl_NameOk.l0 kq a0 (a0.size : Int) x6_1 = some r) ∧ Aside0 (kq ≤ k) ∧ Drawn0 w w')
 case atStart => exact ⟨(0), rs, H', ⟨Nat.le_refl _⟩, by repeat (first | exact Drawn0.refl _ | apply Drawn0.step)⟩
 case round =>
  clear H';try clear c1
  obtain ⟨x6_1, rfl, HA, HK1, ⟨m1, rfl⟩⟩ := hrel
  cases gk with
  | zero => exact absurd HA.out (by simp [impl_NameOk.l0])
  | succ k1 =>
   have H := HA.out;clear HA;simp only [impl_NameOk.l0] at H
   by_cases c2 : x6_1 < (a0.size : Int)
   ·rw [if_pos c2] at H;have c2b0 : decide (x6_1 < (a0.size : Int)) = true := decide_eq_true c2;clear c2;have HC3 := Aside0.mk H;clear H
    go_upto_region 4 with (fail)
    go_cut [18] (fun v18 wc => ∃ (kq : Nat) (x18_2 : Bool), v18 = .bool x18_2 ∧ Aside0 (impl_NameOk.j1 kq a0 (a0.size : Int) x6_1 x18_2 = some r) ∧ Aside0 (kq ≤ k1) ∧ Drawn0 w wc)
    case first =>
     have H := HC3.out;clear HC3
     by_cases c4 : 0 ≤ x6_1
     ·rw [if_pos c4] at H;have c4b0 : decide (0 ≤ x6_1) = true := decide_eq_true c4;clear c4;(first | rw [c4b0] | (simp only [i64_w, i32_w]; rw [c4b0]) | skip)
      by_cases c5 : x6_1 < (a0.size : Int)
      ·rw [if_pos c5] at H;have c5b0 : decide (x6_1 < (a0.size : Int)) = true := decide_eq_true c5;clear c5
       by_cases c7 : (bt a0 x6_1) < 97
       ·rw [if_pos c7] at H;have c7b0 : decide ((bt a0 x6_1) < 97) = true := decide_eq_true c7;clear c7;have H' := Aside0.mk H;clear H;have p6 : 0 ≤ (x6_1 : Int) := of_decide_eq_true am;have q6 : x6_1 < (a0.size : Int) := of_decide_eq_true am;have hx6 := bt_at a0 x6_1;replace p6 := eq_true p6;replace q6 := eq_true q6;go_wp2
        go_meet
        case rel => exact ⟨_, (true), rs, H', ⟨by have := HK1.out; first | omega | exact Nat.le_refl _⟩, by repeat (first | exact Drawn0.refl _ | apply Drawn0.step)⟩
       rw [if_neg c7] at H;have c7b0 : decide ((bt a0 x6_1) < 97) = false := decide_eq_false c7;clear c7;have H' := Aside0.mk H;clear H;have p6 : 0 ≤ (x6_1 : Int) := of_decide_eq_true am;have q6 : x6_1 < (a0.size : Int) := of_decide_eq_true am;have hx6 := bt_at a0 x6_1;replace p6 := eq_true p6;replace q6 := eq_true q6;have p8 : 0 ≤ (x6_1 : Int) := of_decide_eq_true am;have q8 : x6_1 < (a0.size : Int) := of_decide_eq_true am;have hx8 := bt_at a0 x6_1;replace p8 := eq_true p8;replace q8 := eq_true q8;go_wp2
       go_meet
       case rel => exact ⟨_, (decide ((bt a0 x6_1) > 122)), rs, H', ⟨by have := HK1.out; first | omega | exact Nat.le_refl _⟩, by repeat (first | exact Drawn0.refl _ | apply Drawn0.step)⟩
      rw [if_neg c5] at H;exact absurd H (by simp)
     rw [if_neg c4] at H;exact absurd H (by simp)
    case rest =>
     clear HC3;(try clear c1);(try clear c2);(try clear c2b0);(try clear p2);(try clear c4);(try clear c4b0);(try clear c5);(try clear c5b0);(try clear p6);(try clear q6);(try clear hx6);(try clear c7);(try clear c7b0);(try clear p8);(try clear q8);(try clear hx8);(try clear p6);(try clear p8);(try clear q6);(try clear q8);obtain ⟨kq, x18_2, rfl, HA, HJ2, ⟨mc2, rfl⟩⟩ := hcut
     cases kq with
     | zero => exact absurd HA.out (by simp [impl_NameOk.j1])
     | succ kj2 =>
      have H := HA.out;clear HA;simp only [impl_NameOk.j1] at H
      by_cases c9 : x18_2 = true
      ·subst c9;rw [if_pos rfl] at H;obtain rfl := Option.some.inj H;go_wp2;go_ret;exact ⟨by first | rfl | (simp; done) | (simp [*]; done), by repeat (first | exact Drawn0.refl _ | apply Drawn0.step)⟩
      replace c9 := Bool.eq_false_iff.mpr c9;subst c9;rw [if_neg (show ¬ (false = true) by decide)] at H;have H' := Aside0.mk H;clear H;go_wp2
      go_roundg kj2
      case measure => have := HK1.out; have := HJ2.out; omega
      case rel => exact ⟨(wrap64 (x6_1 + 1)), rs, H', ⟨by have := HK1.out; have := HJ2.out; omega⟩, by repeat (first | exact Drawn0.refl _ | apply Drawn0.step)⟩
   ·rw [if_neg c2] at H;have c2b0 : decide (x6_1 < (a0.size : Int)) = false := decide_eq_false c2;clear c2;replace H := Option.bind_eq_some_iff.mp H;obtain ⟨t133, A100, H⟩ := H;have A10 := Aside0.mk A100;clear A100;obtain rfl := Option.some.inj H;go_wp2_with (first | ((with_reducible refine gate_callee (f := 21) rfl ?_); refine gL 22 Tryd.func21 #[.int .i64 (a0.size : Int), .int .i64 1, .int .i64 6] ?_; (with_reducible refine (impl_within.calls (a0.size : Int) 1 6 t133 _ A10.out).mono ?_); rintro e w' ⟨rfl, ⟨nd, rfl⟩⟩; refine ⟨_, rfl, ?_⟩));go_ret;exact ⟨by first | rfl | (simp; done) | (simp [*]; done), by repeat (first | exact Drawn0.refl _ | apply Drawn0.step)⟩
-- BY HAND: strconv_Itoa: function 15
def impl_CatRecord.j0 : Nat → Int → ByteArray → ByteArray → Bool → Option (ByteArray)
 | 0, _, _, _, _ => none
 | k + 1, x0, x1, x2, x19 => if x19 = true then (some (⟨#[]⟩ : ByteArray)) else ((strconv_Itoa.f x0).bind fun t136 => (if t136.size + 1 ≤ 9223372036854775807 then (if (t136 ++ (⟨#[32]⟩ : ByteArray)).size + x1.size ≤ 9223372036854775807 then (if ((t136 ++ (⟨#[32]⟩ : ByteArray)) ++ x1).size + 1 ≤ 9223372036854775807 then (if (((t136 ++ (⟨#[32]⟩ : ByteArray)) ++ x1) ++ (⟨#[58]⟩ : ByteArray)).size + x2.size ≤ 9223372036854775807 then (some ((((t136 ++ (⟨#[32]⟩ : ByteArray)) ++ x1) ++ (⟨#[58]⟩ : ByteArray)) ++ x2)) else (none)) else (none)) else (none)) else (none)))
def impl_CatRecord.f (k : Nat) (a0 : Int) (a1 : ByteArray) (a2 : ByteArray) : Option (ByteArray) := (impl_house.f a0).bind fun t134 => (if t134 = true then ((impl_NameOk.f k a1).bind fun t135 => (if t135 = true then (impl_CatRecord.j0 k a0 a1 a2 (decide ((a2.size : Int) > 300))) else (impl_CatRecord.j0 k a0 a1 a2 true))) else (impl_CatRecord.j0 k a0 a1 a2 true))
theorem impl_CatRecord.mono_l : ∀ k, (∀ y0 y1 y2 y3, LeO (impl_CatRecord.j0 k y0 y1 y2 y3) (impl_CatRecord.j0 (k + 1) y0 y1 y2 y3))
 | 0 => fun _ _ _ _ r h => by simp [impl_CatRecord.j0] at h
 | k + 1 => by
  have ih0 := impl_CatRecord.mono_l k;intro y0 y1 y2 y3;unfold impl_CatRecord.j0
  repeat' first
  | (with_reducible exact ih0 _ _ _ _)
  | (with_reducible exact impl_NameOk.mono _ _)
  | (with_reducible exact LeO.refl _)
  | (with_reducible exact LeO.none _)
  | (with_reducible refine LeO.ite ?_ ?_)
  | (with_reducible refine LeO.bind ?_ (fun _ => ?_))
  | exact LeO.none _
  | refine LeO.ite ?_ ?_
  | refine LeO.bind ?_ (fun _ => ?_)
theorem impl_CatRecord.mono : ∀ a0 a1 a2 k, LeO (impl_CatRecord.f k a0 a1 a2) (impl_CatRecord.f (k + 1) a0 a1 a2) := by
 intro a0 a1 a2 k;have ih0 := impl_CatRecord.mono_l k;unfold impl_CatRecord.f
 repeat' first
   | (with_reducible exact ih0 _ _ _ _)
   | (with_reducible exact impl_NameOk.mono _ _)
   | (with_reducible exact LeO.refl _)
   | (with_reducible exact LeO.none _)
   | (with_reducible refine LeO.ite ?_ ?_)
   | (with_reducible refine LeO.bind ?_ (fun _ => ?_))
   | exact LeO.none _
   | refine LeO.ite ?_ ?_
   | refine LeO.bind ?_ (fun _ => ?_)
set_option maxHeartbeats 8000000 in
set_option maxRecDepth 100000 in
theorem impl_CatRecord.calls (k : Nat) (a0 : Int) (a1 : ByteArray) (a2 : ByteArray) (r : ByteArray) (w : World) (hG : Glob w) (h : impl_CatRecord.f k a0 a1 a2 = some r) :
  Calls Tryd.prog 5 #[.int .i64 a0, .string a1, .string a2] w fun e w' => e = .returned (.string r) ∧ Below w.heap.size w w' := by
 have HG := Aside0.mk hG;clear hG;have HB := Aside0.mk (Below.refl w.heap.size w);have H : ((impl_house.f a0).bind fun t134 => (if t134 = true then ((impl_NameOk.f k a1).bind fun t135 => (if t135 = true then (impl_CatRecord.j0 k a0 a1 a2 (decide ((a2.size : Int) > 300))) else (impl_CatRecord.j0 k a0 a1 a2 true))) else (impl_CatRecord.j0 k a0 a1 a2 true))) = some r := h;clear h;have HC4 := Aside0.mk H;clear H
 go_enter Tryd.func5, Tryd.ntmps5
 go_upto_region 1 with (fail)
 go_cut [19] (fun v19 wc => ∃ (kq : Nat) (x19_3 : Bool), v19 = .bool x19_3 ∧ Aside0 (impl_CatRecord.j0 kq a0 a1 a2 x19_3 = some r) ∧ Aside0 (kq ≤ k) ∧ Aside0 (Below w.heap.size w wc))
 case first =>
  have H := HC4.out;clear HC4;replace H := Option.bind_eq_some_iff.mp H;obtain ⟨t134, A50, H⟩ := H;have A5 := Aside0.mk A50;clear A50
  by_cases c6 : t134 = true
  ·subst c6;rw [if_pos rfl] at H;replace H := Option.bind_eq_some_iff.mp H;obtain ⟨t135, A70, H⟩ := H;have A7 := Aside0.mk A70;clear A70
   by_cases c8 : t135 = true
   ·subst c8;rw [if_pos rfl] at H;have H' := Aside0.mk H;clear H;go_wp2_with (first | ((with_reducible refine gate_callee (f := 13) rfl ?_); refine gL 8 Tryd.func13 #[.int .i64 a0] ?_; (with_reducible refine (impl_house.calls a0 true _ A5.out).mono ?_); rintro e w' ⟨rfl, ⟨nd, rfl⟩⟩; refine ⟨_, rfl, ?_⟩) | (go_at_call 14; (with_reducible refine (impl_NameOk.calls k a1 true _ A7.out).mono ?_); rintro e w' ⟨rfl, ⟨nd, rfl⟩⟩))
    go_meet
    case rel => exact ⟨_, (decide ((a2.size : Int) > 300)), rs, H', ⟨by first | omega | exact Nat.le_refl _⟩, ⟨by exact bb HB.out⟩⟩
   replace c8 := Bool.eq_false_iff.mpr c8;subst c8;rw [if_neg (show ¬ (false = true) by decide)] at H;have H' := Aside0.mk H;clear H;go_wp2_with (first | ((with_reducible refine gate_callee (f := 13) rfl ?_); refine gL 8 Tryd.func13 #[.int .i64 a0] ?_; (with_reducible refine (impl_house.calls a0 true _ A5.out).mono ?_); rintro e w' ⟨rfl, ⟨nd, rfl⟩⟩; refine ⟨_, rfl, ?_⟩) | (go_at_call 14; (with_reducible refine (impl_NameOk.calls k a1 false _ A7.out).mono ?_); rintro e w' ⟨rfl, ⟨nd, rfl⟩⟩))
   go_meet
   case rel => exact ⟨_, (true), rs, H', ⟨by first | omega | exact Nat.le_refl _⟩, ⟨by exact bb HB.out⟩⟩
  replace c6 := Bool.eq_false_iff.mpr c6;subst c6;rw [if_neg (show ¬ (false = true) by decide)] at H;have H' := Aside0.mk H;clear H;go_wp2_with (first | ((with_reducible refine gate_callee (f := 13) rfl ?_); refine gL 8 Tryd.func13 #[.int .i64 a0] ?_; (with_reducible refine (impl_house.calls a0 false _ A5.out).mono ?_); rintro e w' ⟨rfl, ⟨nd, rfl⟩⟩; refine ⟨_, rfl, ?_⟩))
  go_meet
  case rel => exact ⟨_, (true), rs, H', ⟨by first | omega | exact Nat.le_refl _⟩, ⟨by exact bb HB.out⟩⟩
 case rest =>
  clear HC4;try clear c1
  try clear p2
  try clear c5
  try clear c6
  try clear c8
  obtain ⟨kq, x19_3, rfl, HA, HJ3, HB⟩ := hcut
  cases kq with
  | zero => exact absurd HA.out (by simp [impl_CatRecord.j0])
  | succ kj3 =>
   have H := HA.out;clear HA;simp only [impl_CatRecord.j0] at H
   by_cases c9 : x19_3 = true
   ·subst c9;rw [if_pos rfl] at H;obtain rfl := Option.some.inj H;go_wp2;go_ret;exact ⟨by first | rfl | (simp [errW_none, errW_some] <;> rfl) | (simp [*, errW_none, errW_some] <;> rfl), by exact bb HB.out⟩
   ·replace c9 := Bool.eq_false_iff.mpr c9;subst c9;rw [if_neg (show ¬ (false = true) by decide)] at H;replace H := Option.bind_eq_some_iff.mp H;obtain ⟨t136, A100, H⟩ := H;have A10 := Aside0.mk A100;clear A100
    by_cases c11 : t136.size + 1 ≤ 9223372036854775807
    ·rw [if_pos c11] at H;have c11b0 := eq_true c11;have c11b1 : decide (t136.size + 1 ≤ 9223372036854775807) = true := decide_eq_true c11
     try have c11b2 : (9223372036854775807 < t136.size + 1) = False := eq_false (Nat.not_lt.2 c11)
     by_cases c12 : (t136 ++ (⟨#[32]⟩ : ByteArray)).size + a1.size ≤ 9223372036854775807
     ·rw [if_pos c12] at H;have c12b0 := eq_true c12;have c12b1 : decide ((t136 ++ (⟨#[32]⟩ : ByteArray)).size + a1.size ≤ 9223372036854775807) = true := decide_eq_true c12
      try have c12b2 : (9223372036854775807 < (t136 ++ (⟨#[32]⟩ : ByteArray)).size + a1.size) = False := eq_false (Nat.not_lt.2 c12)
      (try (have c12n := c12b2; simp only [ByteArray.size_append, ByteArray.size_extract, Nat.sub_zero, lit_size, List.size_toArray, List.length_cons, List.length_nil, Nat.reduceAdd, Nat.zero_add] at c12n))
      by_cases c13 : ((t136 ++ (⟨#[32]⟩ : ByteArray)) ++ a1).size + 1 ≤ 9223372036854775807
      ·rw [if_pos c13] at H;have c13b0 := eq_true c13;have c13b1 : decide (((t136 ++ (⟨#[32]⟩ : ByteArray)) ++ a1).size + 1 ≤ 9223372036854775807) = true := decide_eq_true c13
       try have c13b2 : (9223372036854775807 < ((t136 ++ (⟨#[32]⟩ : ByteArray)) ++ a1).size + 1) = False := eq_false (Nat.not_lt.2 c13)
       (try (have c13n := c13b2; simp only [ByteArray.size_append, ByteArray.size_extract, Nat.sub_zero, lit_size, List.size_toArray, List.length_cons, List.length_nil, Nat.reduceAdd, Nat.zero_add] at c13n))
       by_cases c14 : (((t136 ++ (⟨#[32]⟩ : ByteArray)) ++ a1) ++ (⟨#[58]⟩ : ByteArray)).size + a2.size ≤ 9223372036854775807
       ·rw [if_pos c14] at H;have c14b0 := eq_true c14;have c14b1 : decide ((((t136 ++ (⟨#[32]⟩ : ByteArray)) ++ a1) ++ (⟨#[58]⟩ : ByteArray)).size + a2.size ≤ 9223372036854775807) = true := decide_eq_true c14
        try have c14b2 : (9223372036854775807 < (((t136 ++ (⟨#[32]⟩ : ByteArray)) ++ a1) ++ (⟨#[58]⟩ : ByteArray)).size + a2.size) = False := eq_false (Nat.not_lt.2 c14)
        (try (have c14n := c14b2; simp only [ByteArray.size_append, ByteArray.size_extract, Nat.sub_zero, lit_size, List.size_toArray, List.length_cons, List.length_nil, Nat.reduceAdd, Nat.zero_add] at c14n));obtain rfl := Option.some.inj H;go_wp2_with (first | ((with_reducible refine gate_callee (f := 15) rfl ?_); refine gL 21 Tryd.func15 #[.int .i64 a0] ?_; (with_reducible refine (strconv_Itoa.calls a0 t136 _ ?side1 A10.out).mono ?_); (case side1 => exact Glob.on HG.out (by exact bb HB.out)); rintro e w15 ⟨rfl, hb⟩; refine ⟨_, rfl, ?_⟩; replace HB := hbb HB hb; (try clear hb); (try clear hb2); (try clear hk); (try clear hi)));go_ret;exact ⟨by first | rfl | (simp [errW_none, errW_some] <;> rfl) | (simp [*, errW_none, errW_some] <;> rfl), by exact bb HB.out⟩
       rw [if_neg c14] at H;exact absurd H (by simp)
      rw [if_neg c13] at H;exact absurd H (by simp)
     rw [if_neg c12] at H;exact absurd H (by simp)
    rw [if_neg c11] at H;exact absurd H (by simp)
def spec_l1In.f (a0 : Int) (a1 : Int) (a2 : Int) : Option (Bool) := if a0 ≥ a1 then (some (decide (a0 ≤ a2))) else (some false)
set_option maxHeartbeats 8000000 in
set_option maxRecDepth 100000 in
theorem spec_l1In.calls (a0 : Int) (a1 : Int) (a2 : Int) (r : Bool) (w : World) (h : spec_l1In.f a0 a1 a2 = some r) :
  Calls Tryd.prog 23 #[.int .i64 a0, .int .i64 a1, .int .i64 a2] w fun e w' => e = .returned (.bool r) ∧ Drawn0 w w' := by
 have H : (if a0 ≥ a1 then (some (decide (a0 ≤ a2))) else (some false)) = some r := h;clear h
 by_cases c4 : a0 ≥ a1
 ·rw [if_pos c4] at H;have c4b0 : decide (a1 ≤ a0) = true := decide_eq_true c4;clear c4;obtain rfl := Option.some.inj H
  go_enter Tryd.func23, Tryd.ntmps23
  go_wp2;go_ret;exact ⟨by first | rfl | (simp; done) | (simp [*]; done), by repeat (first | exact Drawn0.refl _ | apply Drawn0.step)⟩
 rw [if_neg c4] at H;have c4b0 : decide (a1 ≤ a0) = false := decide_eq_false c4;clear c4;obtain rfl := Option.some.inj H
 go_enter Tryd.func23, Tryd.ntmps23
 go_wp2;go_ret;exact ⟨by first | rfl | (simp; done) | (simp [*]; done), by repeat (first | exact Drawn0.refl _ | apply Drawn0.step)⟩
mutual
def spec_NameOk.l0 : Nat → ByteArray → Int → Option (Bool)
 | 0, _, _ => none
 | k + 1, x0, x3 => if x3 < (x0.size : Int) then (if 0 ≤ x3 then (if (bt x0 x3) < 97 then (spec_NameOk.j1 k x0 x3 true) else (spec_NameOk.j1 k x0 x3 (decide ((bt x0 x3) > 122)))) else (none)) else ((spec_l1In.f (x0.size : Int) 1 6).bind fun t137 => (some t137))
def spec_NameOk.j1 : Nat → ByteArray → Int → Bool → Option (Bool)
 | 0, _, _, _ => none
 | k + 1, x0, x3, x19 => if x19 = true then (some false) else (spec_NameOk.l0 k x0 (wrap64 (x3 + 1)))
end
def spec_NameOk.f (k : Nat) (a0 : ByteArray) : Option (Bool) := spec_NameOk.l0 k a0 0
theorem spec_NameOk.mono_l : ∀ k, (∀ y0 y1, LeO (spec_NameOk.l0 k y0 y1) (spec_NameOk.l0 (k + 1) y0 y1)) ∧ (∀ y0 y1 y2, LeO (spec_NameOk.j1 k y0 y1 y2) (spec_NameOk.j1 (k + 1) y0 y1 y2))
 | 0 => ⟨fun _ _ r h => by simp [spec_NameOk.l0] at h, fun _ _ _ r h => by simp [spec_NameOk.j1] at h⟩
 | k + 1 => by
  obtain ⟨ih0, ih1⟩ := spec_NameOk.mono_l k;refine ⟨?_, ?_⟩;intro y0 y1; unfold spec_NameOk.l0; rotate_left
  intro y0 y1 y2; unfold spec_NameOk.j1; rotate_left
  all_goals repeat' first
   | (with_reducible exact ih0 _ _)
   | (with_reducible exact ih1 _ _ _)
   | (with_reducible exact LeO.refl _)
   | (with_reducible exact LeO.none _)
   | (with_reducible refine LeO.ite ?_ ?_)
   | (with_reducible refine LeO.bind ?_ (fun _ => ?_))
   | exact LeO.none _
   | refine LeO.ite ?_ ?_
   | refine LeO.bind ?_ (fun _ => ?_)
theorem spec_NameOk.mono : ∀ a0 k, LeO (spec_NameOk.f k a0) (spec_NameOk.f (k + 1) a0) := by
 intro a0 k;obtain ⟨ih0, ih1⟩ := spec_NameOk.mono_l k;unfold spec_NameOk.f
 repeat' first
   | (with_reducible exact ih0 _ _)
   | (with_reducible exact ih1 _ _ _)
   | (with_reducible exact LeO.refl _)
   | (with_reducible exact LeO.none _)
   | (with_reducible refine LeO.ite ?_ ?_)
   | (with_reducible refine LeO.bind ?_ (fun _ => ?_))
   | exact LeO.none _
   | refine LeO.ite ?_ ?_
   | refine LeO.bind ?_ (fun _ => ?_)
set_option maxHeartbeats 8000000 in
set_option maxRecDepth 100000 in
theorem spec_NameOk.calls (k : Nat) (a0 : ByteArray) (r : Bool) (w : World) (h : spec_NameOk.f k a0 = some r) :
  Calls Tryd.prog 24 #[.string a0] w fun e w' => e = .returned (.bool r) ∧ Drawn0 w w' := by
 have H : (spec_NameOk.l0 k a0 0) = some r := h;clear h;have H' := Aside0.mk H;clear H
 go_enter Tryd.func24, Tryd.ntmps24
 go_wp2
 go_loopg [3] k (fun kq v3 w' => ∃ (x3_1 : Int), v3 = .int .i64 x3_1 ∧ Aside0 (spec_NameOk.l0 kq a0 x3_1 = some r) ∧ Aside0 (kq ≤ k) ∧ Drawn0 w w')
 case atStart => exact ⟨(0), rs, H', ⟨Nat.le_refl _⟩, by repeat (first | exact Drawn0.refl _ | apply Drawn0.step)⟩
 case round =>
  clear H';obtain ⟨x3_1, rfl, HA, HK1, ⟨m1, rfl⟩⟩ := hrel
  cases gk with
  | zero => exact absurd HA.out (by simp [spec_NameOk.l0])
  | succ k1 =>
   have H := HA.out;clear HA;simp only [spec_NameOk.l0] at H
   by_cases c2 : x3_1 < (a0.size : Int)
   ·rw [if_pos c2] at H;have c2b0 : decide (x3_1 < (a0.size : Int)) = true := decide_eq_true c2;clear c2;have HC3 := Aside0.mk H;clear H
    go_upto_region 4 with (fail)
    go_cut [19] (fun v19 wc => ∃ (kq : Nat) (x19_2 : Bool), v19 = .bool x19_2 ∧ Aside0 (spec_NameOk.j1 kq a0 x3_1 x19_2 = some r) ∧ Aside0 (kq ≤ k1) ∧ Drawn0 w wc)
    case first =>
     have H := HC3.out;clear HC3
     by_cases c4 : 0 ≤ x3_1
     ·rw [if_pos c4] at H;have c4b0 : decide (0 ≤ x3_1) = true := decide_eq_true c4;clear c4;(first | rw [c4b0] | (simp only [i64_w, i32_w]; rw [c4b0]) | skip)
      by_cases c6 : (bt a0 x3_1) < 97
      ·rw [if_pos c6] at H;have c6b0 : decide ((bt a0 x3_1) < 97) = true := decide_eq_true c6;clear c6;have H' := Aside0.mk H;clear H;have p5 : 0 ≤ (x3_1 : Int) := of_decide_eq_true am;have q5 : x3_1 < (a0.size : Int) := of_decide_eq_true am;have hx5 := bt_at a0 x3_1;replace p5 := eq_true p5;replace q5 := eq_true q5;go_wp2
       go_meet
       case rel => exact ⟨_, (true), rs, H', ⟨by have := HK1.out; first | omega | exact Nat.le_refl _⟩, by repeat (first | exact Drawn0.refl _ | apply Drawn0.step)⟩
      rw [if_neg c6] at H;have c6b0 : decide ((bt a0 x3_1) < 97) = false := decide_eq_false c6;clear c6;have H' := Aside0.mk H;clear H;have p5 : 0 ≤ (x3_1 : Int) := of_decide_eq_true am;have q5 : x3_1 < (a0.size : Int) := of_decide_eq_true am;have hx5 := bt_at a0 x3_1;replace p5 := eq_true p5;replace q5 := eq_true q5;have p7 : 0 ≤ (x3_1 : Int) := of_decide_eq_true am;have q7 : x3_1 < (a0.size : Int) := of_decide_eq_true am;have hx7 := bt_at a0 x3_1;replace p7 := eq_true p7;replace q7 := eq_true q7;go_wp2
      go_meet
      case rel => exact ⟨_, (decide ((bt a0 x3_1) > 122)), rs, H', ⟨by have := HK1.out; first | omega | exact Nat.le_refl _⟩, by repeat (first | exact Drawn0.refl _ | apply Drawn0.step)⟩
     rw [if_neg c4] at H;exact absurd H (by simp)
    case rest =>
     clear HC3;(try clear c2);(try clear c2b0);(try clear p2);(try clear c4);(try clear c4b0);(try clear p5);(try clear q5);(try clear hx5);(try clear c6);(try clear c6b0);(try clear p7);(try clear q7);(try clear hx7);(try clear p5);(try clear p7);(try clear q5);(try clear q7);obtain ⟨kq, x19_2, rfl, HA, HJ2, ⟨mc2, rfl⟩⟩ := hcut
     cases kq with
     | zero => exact absurd HA.out (by simp [spec_NameOk.j1])
     | succ kj2 =>
      have H := HA.out;clear HA;simp only [spec_NameOk.j1] at H
      by_cases c8 : x19_2 = true
      ·subst c8;rw [if_pos rfl] at H;obtain rfl := Option.some.inj H;go_wp2;go_ret;exact ⟨by first | rfl | (simp; done) | (simp [*]; done), by repeat (first | exact Drawn0.refl _ | apply Drawn0.step)⟩
      replace c8 := Bool.eq_false_iff.mpr c8;subst c8;rw [if_neg (show ¬ (false = true) by decide)] at H;have H' := Aside0.mk H;clear H;go_wp2
      go_roundg kj2
      case measure => have := HK1.out; have := HJ2.out; omega
      case rel => exact ⟨(wrap64 (x3_1 + 1)), rs, H', ⟨by have := HK1.out; have := HJ2.out; omega⟩, by repeat (first | exact Drawn0.refl _ | apply Drawn0.step)⟩
   ·rw [if_neg c2] at H;have c2b0 : decide (x3_1 < (a0.size : Int)) = false := decide_eq_false c2;clear c2;replace H := Option.bind_eq_some_iff.mp H;obtain ⟨t137, A90, H⟩ := H;have A9 := Aside0.mk A90;clear A90;obtain rfl := Option.some.inj H;go_wp2_with (first | ((with_reducible refine gate_callee (f := 23) rfl ?_); refine gL 22 Tryd.func23 #[.int .i64 (a0.size : Int), .int .i64 1, .int .i64 6] ?_; (with_reducible refine (spec_l1In.calls (a0.size : Int) 1 6 t137 _ A9.out).mono ?_); rintro e w' ⟨rfl, ⟨nd, rfl⟩⟩; refine ⟨_, rfl, ?_⟩));go_ret;exact ⟨by first | rfl | (simp; done) | (simp [*]; done), by repeat (first | exact Drawn0.refl _ | apply Drawn0.step)⟩
def spec_l9Ok.j0 : Nat → Bool → Option (Bool)
 | 0, _ => none
 | k + 1, x2 => some x2
def spec_l9Ok.f (k : Nat) (a0_0 : Int) (a0_1 : ByteArray) (a0_2 : Int) (a0_3 : ByteArray) : Option (Bool) := (spec_l1In.f a0_0 0 1).bind fun t139 => (if t139 = true then ((spec_NameOk.f k a0_1).bind fun t140 => (if t140 = true then ((spec_l1In.f (a0_3.size : Int) 1 300).bind fun t141 => (spec_l9Ok.j0 k t141)) else (spec_l9Ok.j0 k false))) else (spec_l9Ok.j0 k false))
theorem spec_l9Ok.mono_l : ∀ k, (∀ y0, LeO (spec_l9Ok.j0 k y0) (spec_l9Ok.j0 (k + 1) y0))
 | 0 => fun _ r h => by simp [spec_l9Ok.j0] at h
 | k + 1 => by
  have ih0 := spec_l9Ok.mono_l k;intro y0;unfold spec_l9Ok.j0
  repeat' first
  | (with_reducible exact ih0 _)
  | (with_reducible exact spec_NameOk.mono _ _)
  | (with_reducible exact LeO.refl _)
  | (with_reducible exact LeO.none _)
  | (with_reducible refine LeO.ite ?_ ?_)
  | (with_reducible refine LeO.bind ?_ (fun _ => ?_))
  | exact LeO.none _
  | refine LeO.ite ?_ ?_
  | refine LeO.bind ?_ (fun _ => ?_)
theorem spec_l9Ok.mono : ∀ a0 a1 a2 a3 k, LeO (spec_l9Ok.f k a0 a1 a2 a3) (spec_l9Ok.f (k + 1) a0 a1 a2 a3) := by
 intro a0 a1 a2 a3 k;have ih0 := spec_l9Ok.mono_l k;unfold spec_l9Ok.f
 repeat' first
   | (with_reducible exact ih0 _)
   | (with_reducible exact spec_NameOk.mono _ _)
   | (with_reducible exact LeO.refl _)
   | (with_reducible exact LeO.none _)
   | (with_reducible refine LeO.ite ?_ ?_)
   | (with_reducible refine LeO.bind ?_ (fun _ => ?_))
   | exact LeO.none _
   | refine LeO.ite ?_ ?_
   | refine LeO.bind ?_ (fun _ => ?_)
set_option maxHeartbeats 8000000 in
set_option maxRecDepth 100000 in
theorem spec_l9Ok.calls (k : Nat) (a0_0 : Int) (a0_1 : ByteArray) (a0_2 : Int) (a0_3 : ByteArray) (r : Bool) (w : World) (h : spec_l9Ok.f k a0_0 a0_1 a0_2 a0_3 = some r) :
  Calls Tryd.prog 16 #[.agg #[.int .i64 a0_0, .string a0_1, .int .i64 a0_2, .string a0_3]] w fun e w' => e = .returned (.bool r) ∧ Below w.heap.size w w' := by
 have hu33 := Tryd.underlying33;have HB := Aside0.mk (Below.refl w.heap.size w);have H : ((spec_l1In.f a0_0 0 1).bind fun t139 => (if t139 = true then ((spec_NameOk.f k a0_1).bind fun t140 => (if t140 = true then ((spec_l1In.f (a0_3.size : Int) 1 300).bind fun t141 => (spec_l9Ok.j0 k t141)) else (spec_l9Ok.j0 k false))) else (spec_l9Ok.j0 k false))) = some r := h;clear h;have HC2 := Aside0.mk H;clear H
 go_enter Tryd.func16, Tryd.ntmps16
 go_upto_region 1 with (first | ((with_reducible refine gate_dst (N := 1) rfl ?_); (try (refine gate_guard (by rfl) ?_; dsimp only)); refine bv 1 #[.int .i64 a0_0, .string a0_1, .int .i64 a0_2, .string a0_3] 33 ?_; intro gb138 hg w3 hbox hb; have BK138 := Aside0.mk (hbox); have GW138 := gw HB hg; have GE138 := gw HB hg; replace HB := hbb HB hb; clear hb hbox hg))
 (try simp only [Act.put, sB, s0, s1])
 go_cut [2] (fun v2 wc => ∃ (kq : Nat) (x2_1 : Bool), v2 = .bool x2_1 ∧ Aside0 (spec_l9Ok.j0 kq x2_1 = some r) ∧ Aside0 (kq ≤ k) ∧ Aside0 (wc.heap[gb138]? = some (.cells #[.int .i64 a0_0, .string a0_1, .int .i64 a0_2, .string a0_3] 33 (0, 0))) ∧ Aside0 (Below w.heap.size w wc))
 case first =>
  have H := HC2.out;clear HC2;replace H := Option.bind_eq_some_iff.mp H;obtain ⟨t139, A40, H⟩ := H;have A4 := Aside0.mk A40;clear A40
  by_cases c5 : t139 = true
  ·subst c5;rw [if_pos rfl] at H;replace H := Option.bind_eq_some_iff.mp H;obtain ⟨t140, A60, H⟩ := H;have A6 := Aside0.mk A60;clear A60
   by_cases c7 : t140 = true
   ·subst c7;rw [if_pos rfl] at H;replace H := Option.bind_eq_some_iff.mp H;obtain ⟨t141, A80, H⟩ := H;have A8 := Aside0.mk A80;clear A80;have H' := Aside0.mk H;clear H;obtain ⟨hcz9_0, hcz9_1, hcz9_2, hcz9_3, hfz9_0, hfz9_1, hfz9_2, hfz9_3⟩ := c4 BK138;go_wp2_with (first | ((with_reducible refine gate_callee (f := 23) rfl ?_); refine gL 5 Tryd.func23 #[.int .i64 a0_0, .int .i64 0, .int .i64 1] ?_; (with_reducible refine (spec_l1In.calls a0_0 0 1 true _ A4.out).mono ?_); rintro e w' ⟨rfl, ⟨nd, rfl⟩⟩; refine ⟨_, rfl, ?_⟩) | (go_at_call 24; (with_reducible refine (spec_NameOk.calls k a0_1 true _ A6.out).mono ?_); rintro e w' ⟨rfl, ⟨nd, rfl⟩⟩) | (go_at_call 23; (with_reducible refine (spec_l1In.calls (a0_3.size : Int) 1 300 t141 _ A8.out).mono ?_); rintro e w' ⟨rfl, ⟨nd, rfl⟩⟩))
    go_meet
    case rel => exact ⟨_, (t141), rs, H', ⟨by first | omega | exact Nat.le_refl _⟩, ⟨bl BK138.out⟩, ⟨by exact bb HB.out⟩⟩
   replace c7 := Bool.eq_false_iff.mpr c7;subst c7;rw [if_neg (show ¬ (false = true) by decide)] at H;have H' := Aside0.mk H;clear H;obtain ⟨hcz10_0, hcz10_1, hcz10_2, hcz10_3, hfz10_0, hfz10_1, hfz10_2, hfz10_3⟩ := c4 BK138;go_wp2_with (first | ((with_reducible refine gate_callee (f := 23) rfl ?_); refine gL 5 Tryd.func23 #[.int .i64 a0_0, .int .i64 0, .int .i64 1] ?_; (with_reducible refine (spec_l1In.calls a0_0 0 1 true _ A4.out).mono ?_); rintro e w' ⟨rfl, ⟨nd, rfl⟩⟩; refine ⟨_, rfl, ?_⟩) | (go_at_call 24; (with_reducible refine (spec_NameOk.calls k a0_1 false _ A6.out).mono ?_); rintro e w' ⟨rfl, ⟨nd, rfl⟩⟩))
   go_meet
   case rel => exact ⟨_, (false), rs, H', ⟨by first | omega | exact Nat.le_refl _⟩, ⟨bl BK138.out⟩, ⟨by exact bb HB.out⟩⟩
  replace c5 := Bool.eq_false_iff.mpr c5;subst c5;rw [if_neg (show ¬ (false = true) by decide)] at H;have H' := Aside0.mk H;clear H;obtain ⟨hcz11_0, hcz11_1, hcz11_2, hcz11_3, hfz11_0, hfz11_1, hfz11_2, hfz11_3⟩ := c4 BK138;go_wp2_with (first | ((with_reducible refine gate_callee (f := 23) rfl ?_); refine gL 5 Tryd.func23 #[.int .i64 a0_0, .int .i64 0, .int .i64 1] ?_; (with_reducible refine (spec_l1In.calls a0_0 0 1 false _ A4.out).mono ?_); rintro e w' ⟨rfl, ⟨nd, rfl⟩⟩; refine ⟨_, rfl, ?_⟩))
  go_meet
  case rel => exact ⟨_, (false), rs, H', ⟨by first | omega | exact Nat.le_refl _⟩, ⟨bl BK138.out⟩, ⟨by exact bb HB.out⟩⟩
 case rest =>
  clear HC2;try clear c1
  try clear c2
  try clear p2
  try clear c5
  try clear c7
  try clear hcz10_0
  try clear hcz10_1
  try clear hcz10_2
  try clear hcz10_3
  try clear hcz11_0
  try clear hcz11_1
  try clear hcz11_2
  try clear hcz11_3
  try clear hcz9_0
  try clear hcz9_1
  try clear hcz9_2
  try clear hcz9_3
  try clear hfz10_0
  try clear hfz10_1
  try clear hfz10_2
  try clear hfz10_3
  try clear hfz11_0
  try clear hfz11_1
  try clear hfz11_2
  try clear hfz11_3
  try clear hfz9_0
  try clear hfz9_1
  try clear hfz9_2
  try clear hfz9_3
  obtain ⟨kq, x2_1, rfl, HA, HJ1, BK138, HB⟩ := hcut
  cases kq with
  | zero => exact absurd HA.out (by simp [spec_l9Ok.j0])
  | succ kj1 =>
   have H := HA.out;clear HA;simp only [spec_l9Ok.j0] at H;obtain rfl := Option.some.inj H;go_wp2;go_ret;exact ⟨by first | rfl | (simp [errW_none, errW_some] <;> rfl) | (simp [*, errW_none, errW_some] <;> rfl), by exact bb HB.out⟩
def spec_l1Dec.f : Nat → Int → Option (ByteArray)
 | 0, _ => none
 | k + 1, a0 => if a0 < (-9223372036854775807) then (some (⟨#[45, 57, 50, 50, 51, 51, 55, 50, 48, 51, 54, 56, 53, 52, 55, 55, 53, 56, 48, 56]⟩ : ByteArray)) else (if a0 < 0 then ((spec_l1Dec.f k (wrap64 (-a0))).bind fun t142 => (if 1 + t142.size ≤ 9223372036854775807 then (some ((⟨#[45]⟩ : ByteArray) ++ t142)) else (none))) else (if a0 < 10 then (some (strOfNums (([(wrap64 (48 + a0)) % 256] : List Int)))) else ((spec_l1Dec.f k (wrap64 (Int.tdiv a0 10))).bind fun t146 => ((some (([(wrap64 (48 + (Int.tmod a0 10))) % 256] : List Int) : List Int)).bind fun y147 => (if t146.size + (strOfNums y147).size ≤ 9223372036854775807 then (some (t146 ++ (strOfNums y147))) else (none))))))
theorem spec_l1Dec.mono_l : ∀ k, (∀ y0, LeO (spec_l1Dec.f k y0) (spec_l1Dec.f (k + 1) y0))
 | 0 => fun _ r h => by simp [spec_l1Dec.f] at h
 | k + 1 => by
  have ih0 := spec_l1Dec.mono_l k;intro y0;unfold spec_l1Dec.f
  repeat' first
  | (with_reducible exact ih0 _)
  | (with_reducible exact LeO.refl _)
  | (with_reducible exact LeO.none _)
  | (with_reducible refine LeO.ite ?_ ?_)
  | (with_reducible refine LeO.bind ?_ (fun _ => ?_))
  | exact LeO.none _
  | refine LeO.ite ?_ ?_
  | refine LeO.bind ?_ (fun _ => ?_)
theorem spec_l1Dec.mono : ∀ a0 k, LeO (spec_l1Dec.f k a0) (spec_l1Dec.f (k + 1) a0) := by
 intro a0 k;have ih0 := spec_l1Dec.mono_l k;exact ih0 a0
def spec_l1Dec.T7 : Bool × List (List Nat × List Nat) := (true, [([], []), ([0], [0]), ([1], [1]), ([], []), ([3], [3]), ([4], [4]), ([5], [5]), ([6], [6]), ([7], [7]), ([2, 8], [2, 8]), ([9, 2, 0, 1, 2, 3, 4, 5, 6, 7, 8, 9], [9])])
def spec_l1Dec.B7 : List Nat := [0, 1, 3, 0, 8, 24, 56, 120, 248, 511, 1023]
theorem spec_l1Dec.tab7 : rtab .any (opsOf Tryd.f17 7) = spec_l1Dec.T7 := by kernel_rfl
theorem spec_l1Dec.bits7 : waitsOk spec_l1Dec.T7.2 spec_l1Dec.B7 = true := by kernel_rfl
set_option maxHeartbeats 8000000 in
set_option maxRecDepth 100000 in
theorem spec_l1Dec.calls (k : Nat) : ∀ (a0 : Int) (r : ByteArray) (w : World) (h : spec_l1Dec.f k a0 = some r),
  Calls Tryd.prog 17 #[.int .i64 a0] w fun e w' => e = .returned (.string r) ∧ Below w.heap.size w w' := by
 induction k using Nat.strongRecOn with
 | _ k ih =>
 intro a0 r w h
 cases k with
 | zero => exact absurd h (by simp [spec_l1Dec.f])
 | succ k =>
 simp only [spec_l1Dec.f] at h;have HB := Aside0.mk (Below.refl w.heap.size w);have H : (if a0 < (-9223372036854775807) then (some (⟨#[45, 57, 50, 50, 51, 51, 55, 50, 48, 51, 54, 56, 53, 52, 55, 55, 53, 56, 48, 56]⟩ : ByteArray)) else (if a0 < 0 then ((spec_l1Dec.f k (wrap64 (-a0))).bind fun t142 => (if 1 + t142.size ≤ 9223372036854775807 then (some ((⟨#[45]⟩ : ByteArray) ++ t142)) else (none))) else (if a0 < 10 then (some (strOfNums (([(wrap64 (48 + a0)) % 256] : List Int)))) else ((spec_l1Dec.f k (wrap64 (Int.tdiv a0 10))).bind fun t146 => ((some (([(wrap64 (48 + (Int.tmod a0 10))) % 256] : List Int) : List Int)).bind fun y147 => (if t146.size + (strOfNums y147).size ≤ 9223372036854775807 then (some (t146 ++ (strOfNums y147))) else (none))))))) = some r := h;clear h
 by_cases c2 : a0 < (-9223372036854775807)
 ·rw [if_pos c2] at H;have c2b0 : decide (a0 < (-9223372036854775807)) = true := decide_eq_true c2;clear c2;obtain rfl := Option.some.inj H
  go_enter Tryd.func17, Tryd.ntmps17
  go_wp2;go_ret;exact ⟨by first | rfl | (simp [errW_none, errW_some] <;> rfl) | (simp [*, errW_none, errW_some] <;> rfl), by exact bb HB.out⟩
 ·rw [if_neg c2] at H;have c2b0 : decide (a0 < (-9223372036854775807)) = false := decide_eq_false c2;clear c2
  by_cases c3 : a0 < 0
  ·rw [if_pos c3] at H;have c3b0 : decide (a0 < 0) = true := decide_eq_true c3;clear c3;replace H := Option.bind_eq_some_iff.mp H;obtain ⟨t142, A40, H⟩ := H;have A4 := Aside0.mk A40;clear A40
   by_cases c5 : 1 + t142.size ≤ 9223372036854775807
   ·rw [if_pos c5] at H;have c5b0 := eq_true c5;have c5b1 : decide (1 + t142.size ≤ 9223372036854775807) = true := decide_eq_true c5
    try have c5b2 : (9223372036854775807 < 1 + t142.size) = False := eq_false (Nat.not_lt.2 c5)
    obtain rfl := Option.some.inj H
    go_enter Tryd.func17, Tryd.ntmps17
    go_wp2_with (first | ((with_reducible refine gate_callee (f := 17) rfl ?_); refine gL 9 Tryd.func17 #[.int .i64 (wrap64 (-a0))] ?_; (with_reducible refine (ih k (by omega) (wrap64 (-a0)) t142 _ A4.out).mono ?_); rintro e w6 ⟨rfl, hb⟩; refine ⟨_, rfl, ?_⟩; replace HB := hbb HB hb; (try clear hb); (try clear hb2); (try clear hk); (try clear hi)));go_ret;exact ⟨by first | rfl | (simp [errW_none, errW_some] <;> rfl) | (simp [*, errW_none, errW_some] <;> rfl), by exact bb HB.out⟩
   rw [if_neg c5] at H;exact absurd H (by simp)
  ·rw [if_neg c3] at H;have c3b0 : decide (a0 < 0) = false := decide_eq_false c3;clear c3
   by_cases c7 : a0 < 10
   ·rw [if_pos c7] at H;have c7b0 : decide (a0 < 10) = true := decide_eq_true c7;clear c7;obtain ⟨y143, hy143⟩ : ∃ y_ : List Int, y_ = (([(wrap64 (48 + a0)) % 256] : List Int)) := ⟨_, rfl⟩;replace H : (some (strOfNums y143)) = some r := by first | (rw [hy143]; with_reducible exact H) | (have H2_ := (Option.bind_some _ _).symm.trans H; rw [hy143]; with_reducible exact H2_) | (have H2_ := (Option.bind_some _ _).symm.trans H; with_reducible exact H2_) | with_reducible exact H | (rw [hy143]; exact H) | exact H
    have Ny143 := Aside0.mk hy143;clear hy143;obtain rfl := Option.some.inj H
    go_enter Tryd.func17, Tryd.ntmps17
    go_wp2_with (first | ((with_reducible refine gate_dst (N := 16) rfl ?_); refine rL (Kd.int .u8) 5 16 ([(wrap64 (48 + a0)) % 256] : List Int) [.int .u8 ((wrap64 (48 + a0)) % 256)] ?_; intro v144 w8 ho9 hb hg_ hnew_; clear hg_ hnew_; (first | rw [← Ny143.out] at ho9 | (simp only [Int.reduceToNat] at ho9; rw [← Ny143.out] at ho9)); have HO145 := Aside0.mk (Kd.R_lower ho9 (below_size (by exact bb HB.out))); replace HB := hbb HB hb; clear hb ho9; have hcv10 := own_string (P := Tryd.prog) Tryd.underlying22 Tryd.underlying5 Tryd.underlying9 (Kd.own_of_R HO145.out)));go_ret;exact ⟨by first | rfl | (simp [errW_none, errW_some] <;> rfl) | (simp [*, errW_none, errW_some] <;> rfl), by exact bb HB.out⟩
   ·rw [if_neg c7] at H;have c7b0 : decide (a0 < 10) = false := decide_eq_false c7;clear c7;replace H := Option.bind_eq_some_iff.mp H;obtain ⟨t146, A110, H⟩ := H;have A11 := Aside0.mk A110;clear A110;obtain ⟨y147, hy147⟩ : ∃ y_ : List Int, y_ = (([(wrap64 (48 + (Int.tmod a0 10))) % 256] : List Int)) := ⟨_, rfl⟩;replace H : (if t146.size + (strOfNums y147).size ≤ 9223372036854775807 then (some (t146 ++ (strOfNums y147))) else (none)) = some r := by first | (rw [hy147]; with_reducible exact H) | (have H2_ := (Option.bind_some _ _).symm.trans H; rw [hy147]; with_reducible exact H2_) | (have H2_ := (Option.bind_some _ _).symm.trans H; with_reducible exact H2_) | with_reducible exact H | (rw [hy147]; exact H) | exact H
    have Ny147 := Aside0.mk hy147;clear hy147
    by_cases c12 : t146.size + (strOfNums y147).size ≤ 9223372036854775807
    ·rw [if_pos c12] at H;have c12b0 := eq_true c12;have c12b1 : decide (t146.size + (strOfNums y147).size ≤ 9223372036854775807) = true := decide_eq_true c12
     try have c12b2 : (9223372036854775807 < t146.size + (strOfNums y147).size) = False := eq_false (Nat.not_lt.2 c12)
     obtain rfl := Option.some.inj H
     go_enter Tryd.func17, Tryd.ntmps17
     try go_wp2
     replace HB := Aside0.mk (below_drew1 HB.out);refine start_ (n := 11) (S := fun w' => True) (ds := []) (bm 11 0) (by kernel_rfl) rfl rfl trivial (fun hHeld => ?_); refine with_tabW spec_l1Dec.tab7 spec_l1Dec.bits7 (fun HT_ HW_ => ?_)
     generalize w.drew = w13 at HB hHeld ⊢;refine pu HT_ 0 18 (bm 11 1) ?_;refine pu HT_ 1 19 (bm 11 3) ?_;refine pu HT_ 3 21 (bm 11 11) ?_;refine pu HT_ 4 22 (bm 11 27) ?_;refine pu HT_ 5 23 (bm 11 59) ?_;refine pu HT_ 6 24 (bm 11 123) ?_;refine join_ (σ := Value) 2 (bm 11 511) (fun s_ => [(20, .string t146), (25, s_), (26, .string (strOfNums y147))]) (fun s_ w' => (Kd.R (Kd.int .u8) 5 w' w.heap.size (fun _ => True) s_ y147) ∧ (Below w.heap.size w w')) ?_ ?_
     ·rintro v148 w18 ⟨h0_, h1_⟩;have n0_ : Aside0 (Kd.R (Kd.int .u8) 5 w18 w.heap.size (fun _ => True) v148 y147) := ⟨h0_⟩;have n1_ := Aside0.mk h1_;clear HB;clear h0_ h1_;have HO149 := n0_;have HB := n1_;clear n0_ n1_;have hHeld := trivial;refine norm_ (a' := ?_) ?_ ?_;rotate_left
      ·simp only [putAll, Act.put, sB, s0, s1];rfl
      refine pu HT_ 9 27 (bm 11 1023) ?_;refine pu HT_ 10 2 (bm 11 2047) ?_;refine done_ (done_of HT_.out (by kernel_rfl)) ?_
      try go_wp2
      go_ret;exact ⟨by first | rfl | (simp [errW_none, errW_some] <;> rfl) | (simp [*, errW_none, errW_some] <;> rfl), by exact bb HB.out⟩
     intro hCont;refine tw HT_ 2 7 20 25 (bm 11 127) (bm 11 251) (fun K hK => ?_) (fun K hK => ?_)
     ·refine gR Tryd.func17 #[.int .i64 (wrap64 (Int.tdiv a0 10))] ?_;(with_reducible refine (ih k (by omega) (wrap64 (Int.tdiv a0 10)) t146 _ A11.out).mono ?_);rintro e w14 ⟨rfl, hb⟩;refine ⟨_, rfl, ?_⟩;replace HB := hbb HB hb;(try clear hb);(try clear hb2);(try clear hk);(try clear hi);refine hK.out _ _ trivial (fun hHeld => ?_);clear hK K;refine nm 20 ?_;refine on HT_ 7 25 (bm 11 255) (fun K hK => ?_);refine rS (Kd.int .u8) 5 25 ([(wrap64 (48 + (Int.tmod a0 10))) % 256] : List Int) [.int .u8 ((wrap64 (48 + (Int.tmod a0 10))) % 256)] ?_;intro v148 w15 ho16 hb hg_ hnew_;clear hg_ hnew_;(first | rw [← Ny147.out] at ho16 | (simp only [Int.reduceToNat] at ho16; rw [← Ny147.out] at ho16));have HO149 := Aside0.mk (Kd.R_lower ho16 (below_size (by exact bb HB.out)));replace HB := hbb HB hb;clear hb ho16;refine hK.out _ _ trivial (fun hHeld => ?_);clear hK K;refine nm 25 ?_;refine on HT_ 8 26 (bm 11 511) (fun K hK => ?_);have hcv17 := own_string (P := Tryd.prog) Tryd.underlying22 Tryd.underlying5 Tryd.underlying9 (Kd.own_of_R HO149.out);refine value_ (w1 := ?_) (v := ?_) (by rfl) rfl ?_ ?_;rotate_left 2
      ·go_simp
       constructor
       ·rfl
       rfl
      clear hcv17;refine hK.out _ _ trivial (fun hHeld => ?_);clear hK K;refine nm 26 ?_;exact norm_ (by simp only [putAll, Act.put, sB, s0, s1]) (hCont (v148) _ ⟨(by exact rl HO149), (by exact bb HB.out)⟩)
     refine rS (Kd.int .u8) 5 25 ([(wrap64 (48 + (Int.tmod a0 10))) % 256] : List Int) [.int .u8 ((wrap64 (48 + (Int.tmod a0 10))) % 256)] ?_;intro v148 w14 ho15 hb hg_ hnew_;clear hg_ hnew_;(first | rw [← Ny147.out] at ho15 | (simp only [Int.reduceToNat] at ho15; rw [← Ny147.out] at ho15));have HO149 := Aside0.mk (Kd.R_lower ho15 (below_size (by exact bb HB.out)));replace HB := hbb HB hb;clear hb ho15;refine hK.out _ _ trivial (fun hHeld => ?_);clear hK K;refine nm 25 ?_;refine tw HT_ 2 8 20 26 (bm 11 255) (bm 11 507) (fun K hK => ?_) (fun K hK => ?_)
     ·refine gR Tryd.func17 #[.int .i64 (wrap64 (Int.tdiv a0 10))] ?_;(with_reducible refine (ih k (by omega) (wrap64 (Int.tdiv a0 10)) t146 _ A11.out).mono ?_);rintro e w16 ⟨rfl, hb⟩;refine ⟨_, rfl, ?_⟩;replace HO149 := Kd.rR HO149 hb;replace HB := hbb HB hb;(try clear hb);(try clear hb2);(try clear hk);(try clear hi);refine hK.out _ _ trivial (fun hHeld => ?_);clear hK K;refine nm 20 ?_;refine on HT_ 8 26 (bm 11 511) (fun K hK => ?_);have hcv17 := own_string (P := Tryd.prog) Tryd.underlying22 Tryd.underlying5 Tryd.underlying9 (Kd.own_of_R HO149.out);refine value_ (w1 := ?_) (v := ?_) (by rfl) rfl ?_ ?_;rotate_left 2
      ·go_simp
       constructor
       ·rfl
       rfl
      clear hcv17;refine hK.out _ _ trivial (fun hHeld => ?_);clear hK K;refine nm 26 ?_;exact norm_ (by simp only [putAll, Act.put, sB, s0, s1]) (hCont (v148) _ ⟨(by exact rl HO149), (by exact bb HB.out)⟩)
     have hcv16 := own_string (P := Tryd.prog) Tryd.underlying22 Tryd.underlying5 Tryd.underlying9 (Kd.own_of_R HO149.out);refine value_ (w1 := ?_) (v := ?_) (by rfl) rfl ?_ ?_;rotate_left 2
     ·go_simp
      constructor
      ·rfl
      rfl
     clear hcv16;refine hK.out _ _ trivial (fun hHeld => ?_);clear hK K;refine nm 26 ?_;refine on HT_ 2 20 (bm 11 511) (fun K hK => ?_);refine gR Tryd.func17 #[.int .i64 (wrap64 (Int.tdiv a0 10))] ?_;(with_reducible refine (ih k (by omega) (wrap64 (Int.tdiv a0 10)) t146 _ A11.out).mono ?_);rintro e w17 ⟨rfl, hb⟩;refine ⟨_, rfl, ?_⟩;replace HO149 := Kd.rR HO149 hb;replace HB := hbb HB hb;(try clear hb);(try clear hb2);(try clear hk);(try clear hi);refine hK.out _ _ trivial (fun hHeld => ?_);clear hK K;refine nm 20 ?_;exact norm_ (by simp only [putAll, Act.put, sB, s0, s1]) (hCont (v148) _ ⟨(by exact rl HO149), (by exact bb HB.out)⟩)
    rw [if_neg c12] at H;exact absurd H (by simp)
def spec_CatRecord.j0 : Nat → Int → ByteArray → ByteArray → ByteArray → Option (ByteArray)
 | 0, _, _, _, _ => none
 | k + 1, x0, x1, x2, x7 => (spec_l9Ok.f k x0 x1 0 x7).bind fun t150 => (if t150 = true then ((spec_l1Dec.f k x0).bind fun t151 => (if t151.size + 1 ≤ 9223372036854775807 then (if (t151 ++ (⟨#[32]⟩ : ByteArray)).size + x1.size ≤ 9223372036854775807 then (if ((t151 ++ (⟨#[32]⟩ : ByteArray)) ++ x1).size + 1 ≤ 9223372036854775807 then (if (((t151 ++ (⟨#[32]⟩ : ByteArray)) ++ x1) ++ (⟨#[58]⟩ : ByteArray)).size + x2.size ≤ 9223372036854775807 then (some ((((t151 ++ (⟨#[32]⟩ : ByteArray)) ++ x1) ++ (⟨#[58]⟩ : ByteArray)) ++ x2)) else (none)) else (none)) else (none)) else (none))) else (some (⟨#[]⟩ : ByteArray)))
def spec_CatRecord.f (k : Nat) (a0 : Int) (a1 : ByteArray) (a2 : ByteArray) : Option (ByteArray) := if a2.toList = ([] : List UInt8) then (spec_CatRecord.j0 k a0 a1 a2 (⟨#[120]⟩ : ByteArray)) else (spec_CatRecord.j0 k a0 a1 a2 a2)
theorem spec_CatRecord.mono_l : ∀ k, (∀ y0 y1 y2 y3, LeO (spec_CatRecord.j0 k y0 y1 y2 y3) (spec_CatRecord.j0 (k + 1) y0 y1 y2 y3))
 | 0 => fun _ _ _ _ r h => by simp [spec_CatRecord.j0] at h
 | k + 1 => by
  have ih0 := spec_CatRecord.mono_l k;intro y0 y1 y2 y3;unfold spec_CatRecord.j0
  repeat' first
  | (with_reducible exact ih0 _ _ _ _)
  | (with_reducible exact spec_l1Dec.mono _ _)
  | (with_reducible exact spec_l9Ok.mono _ _ _ _ _)
  | (with_reducible exact LeO.refl _)
  | (with_reducible exact LeO.none _)
  | (with_reducible refine LeO.ite ?_ ?_)
  | (with_reducible refine LeO.bind ?_ (fun _ => ?_))
  | exact LeO.none _
  | refine LeO.ite ?_ ?_
  | refine LeO.bind ?_ (fun _ => ?_)
theorem spec_CatRecord.mono : ∀ a0 a1 a2 k, LeO (spec_CatRecord.f k a0 a1 a2) (spec_CatRecord.f (k + 1) a0 a1 a2) := by
 intro a0 a1 a2 k;have ih0 := spec_CatRecord.mono_l k;unfold spec_CatRecord.f
 repeat' first
   | (with_reducible exact ih0 _ _ _ _)
   | (with_reducible exact spec_l1Dec.mono _ _)
   | (with_reducible exact spec_l9Ok.mono _ _ _ _ _)
   | (with_reducible exact LeO.refl _)
   | (with_reducible exact LeO.none _)
   | (with_reducible refine LeO.ite ?_ ?_)
   | (with_reducible refine LeO.bind ?_ (fun _ => ?_))
   | exact LeO.none _
   | refine LeO.ite ?_ ?_
   | refine LeO.bind ?_ (fun _ => ?_)
set_option maxHeartbeats 8000000 in
set_option maxRecDepth 100000 in
theorem spec_CatRecord.calls (k : Nat) (a0 : Int) (a1 : ByteArray) (a2 : ByteArray) (r : ByteArray) (w : World) (h : spec_CatRecord.f k a0 a1 a2 = some r) :
  Calls Tryd.prog 6 #[.int .i64 a0, .string a1, .string a2] w fun e w' => e = .returned (.string r) ∧ Below w.heap.size w w' := by
 have hu33 := Tryd.underlying33;have HB := Aside0.mk (Below.refl w.heap.size w);have H : (if a2.toList = ([] : List UInt8) then (spec_CatRecord.j0 k a0 a1 a2 (⟨#[120]⟩ : ByteArray)) else (spec_CatRecord.j0 k a0 a1 a2 a2)) = some r := h;clear h;have HC4 := Aside0.mk H;clear H
 go_enter Tryd.func6, Tryd.ntmps6
 go_upto_if 10 with (fail)
 go_cut [7] (fun v7 wc => ∃ (kq : Nat) (x7_3 : ByteArray), v7 = .string x7_3 ∧ Aside0 (spec_CatRecord.j0 kq a0 a1 a2 x7_3 = some r) ∧ Aside0 (kq ≤ k) ∧ Aside0 (Below w.heap.size w wc))
 case first =>
  have H := HC4.out;clear HC4
  by_cases c5 : a2.toList = ([] : List UInt8)
  ·rw [if_pos c5] at H;have c5b0 : (a2.toList == ([] : List UInt8)) = true := beq_iff_eq.mpr c5;have c5e := nilE c5b0;have c5b1 : (a2.toList != ([] : List UInt8)) = false := bne_eq_false_iff_eq.mpr c5;clear c5;(first | rw [c5b0] | rw [c5e] | (simp only [i64_w, i32_w]; rw [c5b0]) | skip);have H' := Aside0.mk H;clear H;go_wp2
   go_meet
   case rel => exact ⟨_, ((⟨#[120]⟩ : ByteArray)), rs, H', ⟨by first | omega | exact Nat.le_refl _⟩, ⟨by exact bb HB.out⟩⟩
  rw [if_neg c5] at H;have c5b0 : (a2.toList == ([] : List UInt8)) = false := beq_eq_false_iff_ne.mpr c5;have c5e := nilE c5b0;have c5b1 : (a2.toList != ([] : List UInt8)) = true := bne_iff_ne.mpr c5;(first | rw [c5b0] | rw [c5e] | (simp only [i64_w, i32_w]; rw [c5b0]) | skip);have H' := Aside0.mk H;clear H;go_wp2
  go_meet
  case rel => exact ⟨_, (a2), rs, H', ⟨by first | omega | exact Nat.le_refl _⟩, ⟨by exact bb HB.out⟩⟩
 case rest =>
  clear HC4;try clear p2
  try clear c5
  try clear c5b0
  try clear c5b1
  obtain ⟨kq, x7_3, rfl, HA, HJ3, HB⟩ := hcut
  cases kq with
  | zero => exact absurd HA.out (by simp [spec_CatRecord.j0])
  | succ kj3 =>
   have H := HA.out;clear HA;simp only [spec_CatRecord.j0] at H;replace H := Option.bind_eq_some_iff.mp H;obtain ⟨t150, A60, H⟩ := H;have A6 := Aside0.mk A60;clear A60
   by_cases c7 : t150 = true
   ·subst c7;rw [if_pos rfl] at H;replace H := Option.bind_eq_some_iff.mp H;obtain ⟨t151, A80, H⟩ := H;have A8 := Aside0.mk A80;clear A80
    by_cases c9 : t151.size + 1 ≤ 9223372036854775807
    ·rw [if_pos c9] at H;have c9b0 := eq_true c9;have c9b1 : decide (t151.size + 1 ≤ 9223372036854775807) = true := decide_eq_true c9
     try have c9b2 : (9223372036854775807 < t151.size + 1) = False := eq_false (Nat.not_lt.2 c9)
     by_cases c10 : (t151 ++ (⟨#[32]⟩ : ByteArray)).size + a1.size ≤ 9223372036854775807
     ·rw [if_pos c10] at H;have c10b0 := eq_true c10;have c10b1 : decide ((t151 ++ (⟨#[32]⟩ : ByteArray)).size + a1.size ≤ 9223372036854775807) = true := decide_eq_true c10
      try have c10b2 : (9223372036854775807 < (t151 ++ (⟨#[32]⟩ : ByteArray)).size + a1.size) = False := eq_false (Nat.not_lt.2 c10)
      (try (have c10n := c10b2; simp only [ByteArray.size_append, ByteArray.size_extract, Nat.sub_zero, lit_size, List.size_toArray, List.length_cons, List.length_nil, Nat.reduceAdd, Nat.zero_add] at c10n))
      by_cases c11 : ((t151 ++ (⟨#[32]⟩ : ByteArray)) ++ a1).size + 1 ≤ 9223372036854775807
      ·rw [if_pos c11] at H;have c11b0 := eq_true c11;have c11b1 : decide (((t151 ++ (⟨#[32]⟩ : ByteArray)) ++ a1).size + 1 ≤ 9223372036854775807) = true := decide_eq_true c11
       try have c11b2 : (9223372036854775807 < ((t151 ++ (⟨#[32]⟩ : ByteArray)) ++ a1).size + 1) = False := eq_false (Nat.not_lt.2 c11)
       (try (have c11n := c11b2; simp only [ByteArray.size_append, ByteArray.size_extract, Nat.sub_zero, lit_size, List.size_toArray, List.length_cons, List.length_nil, Nat.reduceAdd, Nat.zero_add] at c11n))
       by_cases c12 : (((t151 ++ (⟨#[32]⟩ : ByteArray)) ++ a1) ++ (⟨#[58]⟩ : ByteArray)).size + a2.size ≤ 9223372036854775807
       ·rw [if_pos c12] at H;have c12b0 := eq_true c12;have c12b1 : decide ((((t151 ++ (⟨#[32]⟩ : ByteArray)) ++ a1) ++ (⟨#[58]⟩ : ByteArray)).size + a2.size ≤ 9223372036854775807) = true := decide_eq_true c12
        try have c12b2 : (9223372036854775807 < (((t151 ++ (⟨#[32]⟩ : ByteArray)) ++ a1) ++ (⟨#[58]⟩ : ByteArray)).size + a2.size) = False := eq_false (Nat.not_lt.2 c12)
        (try (have c12n := c12b2; simp only [ByteArray.size_append, ByteArray.size_extract, Nat.sub_zero, lit_size, List.size_toArray, List.length_cons, List.length_nil, Nat.reduceAdd, Nat.zero_add] at c12n));obtain rfl := Option.some.inj H;go_wp2_with (first | ((with_reducible refine gate_callee (f := 16) rfl ?_); refine gL 15 Tryd.func16 #[.agg #[.int .i64 a0, .string a1, .int .i64 0, .string x7_3]] ?_; (with_reducible refine (spec_l9Ok.calls kj3 a0 a1 0 x7_3 true _ A6.out).mono ?_); rintro e w13 ⟨rfl, hb⟩; refine ⟨_, rfl, ?_⟩; replace HB := hbb HB hb; (try clear hb); (try clear hb2); (try clear hk); (try clear hi)) | ((with_reducible refine gate_callee (f := 17) rfl ?_); refine gL 18 Tryd.func17 #[.int .i64 a0] ?_; (with_reducible refine (spec_l1Dec.calls kj3 a0 t151 _ A8.out).mono ?_); rintro e w14 ⟨rfl, hb⟩; refine ⟨_, rfl, ?_⟩; replace HB := hbb HB hb; (try clear hb); (try clear hb2); (try clear hk); (try clear hi)));go_ret;exact ⟨by first | rfl | (simp [errW_none, errW_some] <;> rfl) | (simp [*, errW_none, errW_some] <;> rfl), by exact bb HB.out⟩
       rw [if_neg c12] at H;exact absurd H (by simp)
      rw [if_neg c11] at H;exact absurd H (by simp)
     rw [if_neg c10] at H;exact absurd H (by simp)
    rw [if_neg c9] at H;exact absurd H (by simp)
   replace c7 := Bool.eq_false_iff.mpr c7;subst c7;rw [if_neg (show ¬ (false = true) by decide)] at H;obtain rfl := Option.some.inj H;go_wp2_with (first | ((with_reducible refine gate_callee (f := 16) rfl ?_); refine gL 15 Tryd.func16 #[.agg #[.int .i64 a0, .string a1, .int .i64 0, .string x7_3]] ?_; (with_reducible refine (spec_l9Ok.calls kj3 a0 a1 0 x7_3 false _ A6.out).mono ?_); rintro e w15 ⟨rfl, hb⟩; refine ⟨_, rfl, ?_⟩; replace HB := hbb HB hb; (try clear hb); (try clear hb2); (try clear hk); (try clear hi)));go_ret;exact ⟨by first | rfl | (simp [errW_none, errW_some] <;> rfl) | (simp [*, errW_none, errW_some] <;> rfl), by exact bb HB.out⟩
-- BY HAND: strings_Cut: function 25
-- BY HAND: impl_number: function 26
-- BY HAND: impl_Cat_find: function 19
def impl_cloneCat.f (a0_0 : Int) (l0_1 : List (S33)) : Option (Int × (List (S33))) := (some (([] : List (S33)) : List (S33))).bind fun y154 => (if y154.length + l0_1.length < 2932031007402 then (some (a0_0, (y154 ++ l0_1))) else (none))
def impl_cloneCat.T1 : Bool × List (List Nat × List Nat) := (true, [([], []), ([0], [0]), ([], []), ([], []), ([3], [3]), ([2, 4], [2, 4]), ([1, 5], [1, 5]), ([6, 5, 0, 1, 2, 3, 4, 5, 6], [6])])
def impl_cloneCat.B1 : List Nat := [0, 1, 0, 0, 8, 28, 63, 127]
theorem impl_cloneCat.tab1 : rtab .any (opsOf Tryd.f38 1) = impl_cloneCat.T1 := by kernel_rfl
theorem impl_cloneCat.bits1 : waitsOk impl_cloneCat.T1.2 impl_cloneCat.B1 = true := by kernel_rfl
set_option maxHeartbeats 8000000 in
set_option maxRecDepth 100000 in
theorem impl_cloneCat.calls (a0_0 : Int) (A0_1 : Option Addr) (c0_1 : Nat) (l0_1 : List (S33)) (r1 : Int) (r2 : List (S33)) (w : World) (hr0_1 : Kd.C k33 w A0_1 l0_1.length l0_1) (hc0_1 : l0_1.length ≤ c0_1) (h : impl_cloneCat.f a0_0 l0_1 = some (r1, r2)) :
  Calls Tryd.prog 38 #[.agg #[.int .i64 a0_0, .slice A0_1 l0_1.length c0_1]] w fun e w' => ∃ v1_ : Value, e = .returned (.agg #[.int .i64 r1, v1_]) ∧ Kd.R k33 33 w' w.heap.size (fun _ => True) v1_ r2 ∧ Below w.heap.size w w' := by
 have hu28 := Tryd.underlying28;have HR0_1 := Aside0.mk hr0_1;have HC0_1 := Aside0.mk hc0_1;clear hr0_1 hc0_1;have HB := Aside0.mk (Below.refl w.heap.size w);have H : ((some (([] : List (S33)) : List (S33))).bind fun y154 => (if y154.length + l0_1.length < 2932031007402 then (some (a0_0, (y154 ++ l0_1))) else (none))) = some (r1, r2) := h;clear h;obtain ⟨y154, hy154⟩ : ∃ y_ : List (S33), y_ = (([] : List (S33))) := ⟨_, rfl⟩;replace H : (if y154.length + l0_1.length < 2932031007402 then (some (a0_0, (y154 ++ l0_1))) else (none)) = some (r1, r2) := by first | (rw [hy154]; with_reducible exact H) | (have H2_ := (Option.bind_some _ _).symm.trans H; rw [hy154]; with_reducible exact H2_) | (have H2_ := (Option.bind_some _ _).symm.trans H; with_reducible exact H2_) | with_reducible exact H | (rw [hy154]; exact H) | exact H
 have Ny154 := Aside0.mk hy154;clear hy154
 by_cases c2 : y154.length + l0_1.length < 2932031007402
 ·rw [if_pos c2] at H;have LMc2 := Aside0.mk c2;clear c2;obtain ⟨y157, hy157⟩ : ∃ y_ : List (S33), y_ = (y154 ++ l0_1) := ⟨_, rfl⟩;replace H : (some (a0_0, y157)) = some (r1, r2) := by first | (rw [hy157]; with_reducible exact H) | (have H2_ := (Option.bind_some _ _).symm.trans H; rw [hy157]; with_reducible exact H2_) | (have H2_ := (Option.bind_some _ _).symm.trans H; with_reducible exact H2_) | with_reducible exact H | (rw [hy157]; exact H) | exact H
  have Ny157 := Aside0.mk hy157;clear hy157;simp only [Option.some.injEq, Prod.mk.injEq] at H;obtain ⟨rfl, rfl⟩ := H
  go_enter Tryd.func38, Tryd.ntmps38
  try go_wp2_with (first | ((with_reducible refine gate_dst (N := 1) rfl ?_); refine bv 1 #[.int .i64 a0_0, .slice A0_1 l0_1.length c0_1] 28 ?_; intro gb152 hg w3 hbox hb; have BK152 := Aside0.mk (hbox); have GW152 := gw HB hg; have GE152 := gw HB hg; replace HB := hbb HB hb; clear hb hbox hg) | ((with_reducible refine gate_dst (N := 2) rfl ?_); refine bv 2 #[.int .i64 0, .slice none 0 0] 28 ?_; intro gb153 hg w4 hbox hb; have BK153 := Aside0.mk (hbox); have GW153 := gw HB hg; have GE153 := gw HB hg; have NB152_153 := nl BK152 hg; have NB153_152 := ng BK152 hg; replace BK152 := kb BK152 hb; replace HB := hbb HB hb; clear hb hbox hg))
  replace BK152 := Aside0.mk (blk_drew BK152.out);replace BK153 := Aside0.mk (blk_drew BK153.out);replace HB := Aside0.mk (below_drew1 HB.out);refine start_ (n := 8) (S := fun w' => w'.cell? ⟨gb152, 0, none⟩ = some (.int .i64 a0_0) ∧ w'.cell? ⟨gb152, 1, none⟩ = some (.slice A0_1 l0_1.length c0_1)) (ds := []) (bm 8 0) (by kernel_rfl) rfl rfl ⟨bc BK152 0, bc BK152 1⟩ (fun hHeld => ?_); refine with_tabW impl_cloneCat.tab1 impl_cloneCat.bits1 (fun HT_ HW_ => ?_)
  generalize w4.drew = w5 at BK152 BK153 HB hHeld ⊢;refine pu HT_ 0 3 (bm 8 1) ?_;refine pu HT_ 3 6 (bm 8 9) ?_;refine tk HT_ HW_ 1 4 (bm 8 11) hHeld ?_;refine tk HT_ HW_ 4 7 (bm 8 27) hHeld ?_;refine on HT_ 2 5 (bm 8 31) (fun K hK => ?_);refine rS k33 33 5 ([] : List (S33)) [] ?_;intro v155 w6 ho7 hb hg_ hnew_;clear hg_ hnew_;(first | rw [← Ny154.out] at ho7 | (simp only [Int.reduceToNat] at ho7; rw [← Ny154.out] at ho7));have HO156 := Aside0.mk (Kd.R_lower ho7 (below_size (by exact bb HB.out)));replace BK152 := kb BK152 hb;replace BK153 := kb BK153 hb;replace HB := hbb HB hb;clear hb ho7;refine hK.out _ _ ⟨bc BK152 0, bc BK152 1⟩ (fun hHeld => ?_);clear hK K;refine nm 5 ?_;refine on HT_ 5 8 (bm 8 63) (fun K hK => ?_);refine Kd.R_append_rows_step k33 (w0 := w) w.heap.size (by rfl) (.tmp 5) (.tmp 7) 26 33 (.agg #[(.int .i64 0), (.string ⟨#[]⟩), (.int .i64 0), (.string ⟨#[]⟩)]) 48 rfl Tryd.underlying26 info33 rfl (by decide) (by omega) v155 y154 l0_1 _ _ _ (fun _ => True) (fun _ => False) rfl rfl ?aO ?aR (fun _ _ h => h) (fun _ h => h.elim) ?aF ?aB ?aS ?aL ?_;(case aR => repeat (first | exact (Kd.C_below HR0_1.out HB.out) | (with_reducible refine Kd.C_alloc ?_ _) | (with_reducible refine Kd.C_drewN ?_ _) | (with_reducible refine Kd.C_drew ?_)));(case aB => exact (by exact bb HB.out));(case aF => exact (fun _ _ => trivial));(case aO => exact (by exact rl HO156));(case aS => exact (below_size (by exact bb HB.out)));(case aL => have := LMc2.out; omega);intro v158 w8 ho hb hg hat;rw [← Ny157.out] at ho;have HO159 := Aside0.mk (ho);replace BK152 := Aside0.mk (blk_grown (bl BK152.out) hg (Kd.R_ne HO156.out BK152.out (by decide)));replace BK153 := Aside0.mk (blk_grown (bl BK153.out) hg (Kd.R_ne HO156.out BK153.out (by decide)));replace HB := Aside0.mk (hb);clear HO156;clear ho hb hg hat;obtain ⟨Ao9, co9, eo9⟩ := Kd.R_slice HO159.out;(first | subst eo9 | (injection eo9 with f1_ f2_ f3_; have f4_ := f1_.symm; have f5_ := f3_.symm; clear f1_ f2_ f3_; subst f4_; subst f5_));refine hK.out _ _ ⟨bc BK152 0, bc BK152 1⟩ (fun hHeld => ?_);clear hK K;refine nm 8 ?_;refine pu HT_ 6 9 (bm 8 127) ?_;refine one_ (i := 7) (N := none) (bm 8 255) rfl rfl (one_of HT_.out (by kernel_rfl)) (by decide) (fun K hK => ?_);have hs10 : w8.cell? ⟨gb153, 0, none⟩ = some (.int .i64 0) := bc BK153 0;have hfs10 := blk_frozen BK153.out 0;have hns10_0 := NB152_153.out;have hms10_0 := NB153_152.out;have hs11 : w8.cell? ⟨gb153, 1, none⟩ = some (.slice none 0 0) := bc BK153 1;have hfs11 := blk_frozen BK153.out 1;have hns11_0 := NB152_153.out;have hms11_0 := NB153_152.out;refine skip_ (w1 := ?_) (by rfl) rfl ?_ ?_;rotate_left
  ·go_simp;rfl
  refine hK.out _ _ ⟨((cell_far (p := ⟨gb153, _, none⟩) NB152_153.out _).trans (((cell_far (p := ⟨gb153, _, none⟩) NB152_153.out _).trans (hHeld.1)))), ((cell_far (p := ⟨gb153, _, none⟩) NB152_153.out _).trans (((cell_far (p := ⟨gb153, _, none⟩) NB152_153.out _).trans (hHeld.2))))⟩ (fun hHeld => ?_);clear hK K;refine done_ (done_of HT_.out (by kernel_rfl)) ?_
  try go_wp2
  refine bodyPost_ret (results_cell_row rfl _ _ gb153 28 #[.int .i64 a0_0, .slice Ao9 y157.length co9] (0, 0) _ rfl (bp BK153.out (by rfl)) Tryd.underlying28 rfl (by kernel_rfl)) rfl ?_;exact ⟨_, by first | rfl | (simp [errW_none, errW_some] <;> rfl) | (simp [*, errW_none, errW_some] <;> rfl), by exact Kd.R_mono (Kd.R_lax (g := gb153) (Kd.R_types HO159.out BK153.out (by decide)) (fun _ hk => hk.2)) (fun _ hk => trivial), by exact bbx (a := gb153) HB.out GE153.out⟩
 rw [if_neg c2] at H;exact absurd H (by simp)
-- BY HAND: slices_Delete_Item: function 39
end Go.Proofs.YtoohbmoljdfbjaaDoor.P
