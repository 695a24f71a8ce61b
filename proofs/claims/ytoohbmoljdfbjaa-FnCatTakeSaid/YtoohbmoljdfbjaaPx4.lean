-- made by wip/prt/pp.py over the kit's print
import Derived.Test.YtoohbmoljdfbjaaPx0
import Derived.Test.YtoohbmoljdfbjaaPx3
namespace Go.Proofs.Ytoohbmoljdfbjaa.P
open Go.RowKit Go.Proofs.YtoohbmoljdfbjaaW.PrintWords Go.Proofs.YtoohbmoljdfbjaaW.PrintLast Go.Proofs.YtoohbmoljdfbjaaW.PrintMore
attribute [local go_sem] max2_int min2_int max_two min_two max_three min_three max_four min_four   -- for this text's walks alone
set_option linter.unusedVariables false
set_option linter.unusedSimpArgs false
mutual
def spec_CatOk.j0 : Nat → Bool → Int → List (S38) → Option (Bool)
 | 0, _, _, _ => none
 | k + 1, x16, x219000, x219001 => if x16 = true then (some false) else (spec_CatOk.l0 k 0 x219000 x219001)
def spec_CatOk.l0 : Nat → Int → Int → List (S38) → Option (Bool)
 | 0, _, _, _ => none
 | k + 1, x3, x219000, x219001 => if x3 < (x219001.length : Int) then (if 0 ≤ x3 then ((spec_l9Ok.f k ((rd_T38 x219001 x3).f0) ((rd_T38 x219001 x3).f1) ((rd_T38 x219001 x3).f2) ((rd_T38 x219001 x3).f3)).bind fun t222 => (if t222 = true then ((spec_l1In.f ((rd_T38 x219001 x3).f2) 1 x219000).bind fun t223 => (if t223 = true then (if x3 > 0 then (if 0 ≤ (wrap64 (x3 - 1)) then (if (wrap64 (x3 - 1)) < (x219001.length : Int) then ((spec_l9Less.f k ((rd_T38 x219001 (wrap64 (x3 - 1))).f0) ((rd_T38 x219001 (wrap64 (x3 - 1))).f1) ((rd_T38 x219001 (wrap64 (x3 - 1))).f2) ((rd_T38 x219001 (wrap64 (x3 - 1))).f3) ((rd_T38 x219001 x3).f0) ((rd_T38 x219001 x3).f1)).bind fun t225 => (spec_CatOk.j2 k x3 (!t225) x219000 x219001 ((rd_T38 x219001 x3).f0) ((rd_T38 x219001 x3).f1) ((rd_T38 x219001 x3).f2) ((rd_T38 x219001 x3).f3))) else (none)) else (none)) else (spec_CatOk.j2 k x3 false x219000 x219001 ((rd_T38 x219001 x3).f0) ((rd_T38 x219001 x3).f1) ((rd_T38 x219001 x3).f2) ((rd_T38 x219001 x3).f3))) else (spec_CatOk.j2 k x3 true x219000 x219001 ((rd_T38 x219001 x3).f0) ((rd_T38 x219001 x3).f1) ((rd_T38 x219001 x3).f2) ((rd_T38 x219001 x3).f3)))) else (spec_CatOk.j2 k x3 true x219000 x219001 ((rd_T38 x219001 x3).f0) ((rd_T38 x219001 x3).f1) ((rd_T38 x219001 x3).f2) ((rd_T38 x219001 x3).f3)))) else (none)) else (spec_CatOk.l2 k 0 x219000 x219001)
def spec_CatOk.j2 : Nat → Int → Bool → Int → List (S38) → Int → ByteArray → Int → ByteArray → Option (Bool)
 | 0, _, _, _, _, _, _, _, _ => none
 | k + 1, x3, x57, x219000, x219001, x222000, x222001, x222002, x222003 => if x57 = true then (some false) else (spec_CatOk.l1 k x3 0 x219000 x219001 x222000 x222001 x222002 x222003)
def spec_CatOk.l1 : Nat → Int → Int → Int → List (S38) → Int → ByteArray → Int → ByteArray → Option (Bool)
 | 0, _, _, _, _, _, _, _, _ => none
 | k + 1, x3, x5, x219000, x219001, x222000, x222001, x222002, x222003 => if x5 < x3 then (if 0 ≤ x5 then (if x5 < (x219001.length : Int) then (if ((rd_T38 x219001 x5).f2) = x222002 then (some false) else (spec_CatOk.l1 k x3 (wrap64 (x5 + 1)) x219000 x219001 x222000 x222001 x222002 x222003)) else (none)) else (none)) else (spec_CatOk.l0 k (wrap64 (x3 + 1)) x219000 x219001)
def spec_CatOk.l2 : Nat → Int → Int → List (S38) → Option (Bool)
 | 0, _, _, _ => none
 | k + 1, x6, x219000, x219001 => if x6 < 2 then ((spec_l9Bytes.f k x219001 x6).bind fun t227 => (if t227 > 500 then (some false) else (spec_CatOk.l2 k (wrap64 (x6 + 1)) x219000 x219001))) else (some true)
end
def spec_CatOk.f (k : Nat) (a0_0 : Int) (l0_1 : List (S38)) : Option (Bool) := (spec_l1In.f a0_0 0 99999).bind fun t219 => (if t219 = true then (spec_CatOk.j0 k (decide ((l0_1.length : Int) > 8)) a0_0 l0_1) else (spec_CatOk.j0 k true a0_0 l0_1))
theorem spec_CatOk.mono_l : ∀ k, (∀ y0 y1 y2, LeO (spec_CatOk.j0 k y0 y1 y2) (spec_CatOk.j0 (k + 1) y0 y1 y2)) ∧ (∀ y0 y1 y2, LeO (spec_CatOk.l0 k y0 y1 y2) (spec_CatOk.l0 (k + 1) y0 y1 y2)) ∧ (∀ y0 y1 y2 y3 y4 y5 y6 y7, LeO (spec_CatOk.j2 k y0 y1 y2 y3 y4 y5 y6 y7) (spec_CatOk.j2 (k + 1) y0 y1 y2 y3 y4 y5 y6 y7)) ∧ (∀ y0 y1 y2 y3 y4 y5 y6 y7, LeO (spec_CatOk.l1 k y0 y1 y2 y3 y4 y5 y6 y7) (spec_CatOk.l1 (k + 1) y0 y1 y2 y3 y4 y5 y6 y7)) ∧ (∀ y0 y1 y2, LeO (spec_CatOk.l2 k y0 y1 y2) (spec_CatOk.l2 (k + 1) y0 y1 y2))
 | 0 => ⟨fun _ _ _ r h => by simp [spec_CatOk.j0] at h, fun _ _ _ r h => by simp [spec_CatOk.l0] at h, fun _ _ _ _ _ _ _ _ r h => by simp [spec_CatOk.j2] at h, fun _ _ _ _ _ _ _ _ r h => by simp [spec_CatOk.l1] at h, fun _ _ _ r h => by simp [spec_CatOk.l2] at h⟩
 | k + 1 => by
  obtain ⟨ih0, ih1, ih2, ih3, ih4⟩ := spec_CatOk.mono_l k;refine ⟨?_, ?_, ?_, ?_, ?_⟩;intro y0 y1 y2; unfold spec_CatOk.j0; rotate_left
  intro y0 y1 y2; unfold spec_CatOk.l0; rotate_left
  intro y0 y1 y2 y3 y4 y5 y6 y7; unfold spec_CatOk.j2; rotate_left
  intro y0 y1 y2 y3 y4 y5 y6 y7; unfold spec_CatOk.l1; rotate_left
  intro y0 y1 y2; unfold spec_CatOk.l2; rotate_left
  all_goals repeat' first
   | (with_reducible exact ih0 _ _ _)
   | (with_reducible exact ih1 _ _ _)
   | (with_reducible exact ih2 _ _ _ _ _ _ _ _)
   | (with_reducible exact ih3 _ _ _ _ _ _ _ _)
   | (with_reducible exact ih4 _ _ _)
   | (with_reducible exact spec_l9Bytes.mono _ _ _)
   | (with_reducible exact spec_l9Less.mono _ _ _ _ _ _ _)
   | (with_reducible exact spec_l9Ok.mono _ _ _ _ _)
   | (with_reducible exact LeO.refl _)
   | (with_reducible exact LeO.none _)
   | (with_reducible refine LeO.ite ?_ ?_)
   | (with_reducible refine LeO.bind ?_ (fun _ => ?_))
   | exact LeO.none _
   | refine LeO.ite ?_ ?_
   | refine LeO.bind ?_ (fun _ => ?_)
theorem spec_CatOk.mono : ∀ a0 a1 k, LeO (spec_CatOk.f k a0 a1) (spec_CatOk.f (k + 1) a0 a1) := by
 intro a0 a1 k;obtain ⟨ih0, ih1, ih2, ih3, ih4⟩ := spec_CatOk.mono_l k;unfold spec_CatOk.f
 repeat' first
   | (with_reducible exact ih0 _ _ _)
   | (with_reducible exact ih1 _ _ _)
   | (with_reducible exact ih2 _ _ _ _ _ _ _ _)
   | (with_reducible exact ih3 _ _ _ _ _ _ _ _)
   | (with_reducible exact ih4 _ _ _)
   | (with_reducible exact spec_l9Bytes.mono _ _ _)
   | (with_reducible exact spec_l9Less.mono _ _ _ _ _ _ _)
   | (with_reducible exact spec_l9Ok.mono _ _ _ _ _)
   | (with_reducible exact LeO.refl _)
   | (with_reducible exact LeO.none _)
   | (with_reducible refine LeO.ite ?_ ?_)
   | (with_reducible refine LeO.bind ?_ (fun _ => ?_))
   | exact LeO.none _
   | refine LeO.ite ?_ ?_
   | refine LeO.bind ?_ (fun _ => ?_)
def spec_CatOk.T7 : Bool × List (List Nat × List Nat) := (true, [([], []), ([0], [0]), ([1], [1]), ([2, 1], [2]), ([3], [3]), ([4, 3], [3, 4]), ([3], [3]), ([6, 3], [3, 6]), ([5, 7, 3, 3], [3, 5, 7]), ([8, 3], [3, 8]), ([3, 9], [3, 9]), ([10, 8], [10]), ([11], [11]), ([12, 11], [11, 12]), ([13, 11, 11], [11, 13]), ([14], [14]), ([15, 14], [14, 15]), ([14], [14]), ([17, 14], [14, 17]), ([16, 18, 14], [14, 16, 18]), ([19, 14], [14, 19]), ([14], [14]), ([21, 14], [14, 21]), ([14], [14]), ([23, 14], [14, 23]), ([20, 22, 24, 14, 14], [14, 20, 22, 24]), ([25, 14], [14, 25]), ([14, 26, 11], [11, 14, 26]), ([11, 27], [11, 27])])
def spec_CatOk.B7 : List Nat := [0, 1, 3, 7, 15, 31, 15, 79, 255, 511, 1023, 2047, 4095, 8191, 16383, 32767, 65535, 32767, 163839, 524287, 1048575, 32767, 2129919, 32767, 8421375, 33554431, 67108863, 134217727, 268435455]
theorem spec_CatOk.tab7 : rtab .any (opsOf Try.f9 7) = spec_CatOk.T7 := by kernel_rfl
theorem spec_CatOk.bits7 : waitsOk spec_CatOk.T7.2 spec_CatOk.B7 = true := by kernel_rfl
def spec_CatOk.T12 : Bool × List (List Nat × List Nat) := (true, [([], []), ([0], [0]), ([], []), ([1, 2], [1, 2]), ([3], [3]), ([4], [4]), ([], []), ([6], [6]), ([5, 7], [5, 7])])
def spec_CatOk.B12 : List Nat := [0, 1, 0, 7, 15, 31, 0, 64, 255]
theorem spec_CatOk.tab12 : rtab .any (opsOf Try.f9 12) = spec_CatOk.T12 := by kernel_rfl
theorem spec_CatOk.bits12 : waitsOk spec_CatOk.T12.2 spec_CatOk.B12 = true := by kernel_rfl
set_option maxHeartbeats 8000000 in
set_option maxRecDepth 100000 in
theorem spec_CatOk.calls (k : Nat) (a0_0 : Int) (A0_1 : Option Addr) (c0_1 : Nat) (l0_1 : List (S38)) (r : Bool) (w : World) (hr0_1 : Kd.C k38 w A0_1 l0_1.length l0_1) (hc0_1 : l0_1.length ≤ c0_1) (h : spec_CatOk.f k a0_0 l0_1 = some r) :
  Calls Try.prog 9 #[.agg #[.int .i64 a0_0, .slice A0_1 l0_1.length c0_1]] w fun e w' => e = .returned (.bool r) ∧ Below w.heap.size w w' := by
 have hu25 := Try.underlying25;have hu38 := Try.underlying38;have HR0_1 := Aside0.mk hr0_1;have HC0_1 := Aside0.mk hc0_1;clear hr0_1 hc0_1;have HB := Aside0.mk (Below.refl w.heap.size w);have H : ((spec_l1In.f a0_0 0 99999).bind fun t219 => (if t219 = true then (spec_CatOk.j0 k (decide ((l0_1.length : Int) > 8)) a0_0 l0_1) else (spec_CatOk.j0 k true a0_0 l0_1))) = some r := h;clear h;have HC2 := Aside0.mk H;clear H
 go_enter Try.func9, Try.ntmps9
 go_upto_region 1 with (first | ((with_reducible refine gate_dst (N := 1) rfl ?_); (try (refine gate_guard (by rfl) ?_; dsimp only)); refine box_event ?hg (N := 1) ?hd (cs := #[.int .i64 a0_0, .slice A0_1 l0_1.length c0_1]) (t := 25) ?hr ?_; (case hd => rfl); (case hg => rfl); (case hr => first | (go_simp; done) | (go_simp; rfl)); intro gb218 hg w3 hbox hb; have BK218 := Aside0.mk (hbox); have GW218 := gw HB hg; have GE218 := gw HB hg; replace HB := hbb HB hb; clear hb hbox hg))
 (try simp only [Act.put, sB, s0, s1])
 go_cut [16] (fun v16 wc => ∃ (kq : Nat) (x16_1 : Bool), v16 = .bool x16_1 ∧ Aside0 (spec_CatOk.j0 kq x16_1 a0_0 l0_1 = some r) ∧ Aside0 (kq ≤ k) ∧ Aside0 (wc.heap[gb218]? = some (.cells #[.int .i64 a0_0, (.slice A0_1 l0_1.length c0_1)] 25 (0, 0))) ∧ Aside0 (Below w.heap.size w wc))
 case first =>
  have H := HC2.out;clear HC2;replace H := Option.bind_eq_some_iff.mp H;obtain ⟨t219, A40, H⟩ := H;have A4 := Aside0.mk A40;clear A40
  by_cases c5 : t219 = true
  ·subst c5;rw [if_pos rfl] at H;have H' := Aside0.mk H;clear H;obtain ⟨hcz6_0, hcz6_1, hfz6_0, hfz6_1⟩ := c2 BK218;go_wp2_with (first | ((with_reducible refine gate_callee (f := 28) rfl ?_); refine goesL_ (some 9) rfl rfl Try.func28 (by kernel_rfl) rfl #[.int .i64 a0_0, .int .i64 0, .int .i64 99999] rfl (by (try simp only [List.map_toArray, List.map_cons, List.map_nil]); first | done | rfl | (simp only [List.length_drop, List.length_take]; rfl)) ?_; (with_reducible refine (spec_l1In.calls a0_0 0 99999 true _ A4.out).mono ?_); rintro e w' ⟨rfl, ⟨nd, rfl⟩⟩; refine ⟨_, rfl, ?_⟩))
   go_meet
   case rel => exact ⟨_, (decide ((l0_1.length : Int) > 8)), (by first | rfl | (simp; done) | (simp [*]; done)), H', ⟨by first | omega | exact Nat.le_refl _⟩, ⟨bl BK218.out⟩, ⟨by exact bb HB.out⟩⟩
  replace c5 := Bool.eq_false_iff.mpr c5;subst c5;rw [if_neg (show ¬ (false = true) by decide)] at H;have H' := Aside0.mk H;clear H;obtain ⟨hcz7_0, hcz7_1, hfz7_0, hfz7_1⟩ := c2 BK218;go_wp2_with (first | ((with_reducible refine gate_callee (f := 28) rfl ?_); refine goesL_ (some 9) rfl rfl Try.func28 (by kernel_rfl) rfl #[.int .i64 a0_0, .int .i64 0, .int .i64 99999] rfl (by (try simp only [List.map_toArray, List.map_cons, List.map_nil]); first | done | rfl | (simp only [List.length_drop, List.length_take]; rfl)) ?_; (with_reducible refine (spec_l1In.calls a0_0 0 99999 false _ A4.out).mono ?_); rintro e w' ⟨rfl, ⟨nd, rfl⟩⟩; refine ⟨_, rfl, ?_⟩))
  go_meet
  case rel => exact ⟨_, (true), (by first | rfl | (simp; done) | (simp [*]; done)), H', ⟨by first | omega | exact Nat.le_refl _⟩, ⟨bl BK218.out⟩, ⟨by exact bb HB.out⟩⟩
 case rest =>
  clear HC2;try clear c2
  try clear p2
  try clear c5
  try clear hcz6_0
  try clear hcz6_1
  try clear hcz7_0
  try clear hcz7_1
  try clear hfz6_0
  try clear hfz6_1
  try clear hfz7_0
  try clear hfz7_1
  obtain ⟨kq, x16_1, rfl, HA, HJ1, BK218, HB⟩ := hcut
  cases kq with
  | zero => exact absurd HA.out (by simp [spec_CatOk.j0])
  | succ kj1 =>
   have H := HA.out;clear HA;simp only [spec_CatOk.j0] at H
   by_cases c8 : x16_1 = true
   ·subst c8;rw [if_pos rfl] at H;obtain rfl := Option.some.inj H;go_wp2;go_ret;exact ⟨by first | rfl | (simp [errW_none, errW_some] <;> rfl) | (simp [*, errW_none, errW_some] <;> rfl), by exact bb HB.out⟩
   ·replace c8 := Bool.eq_false_iff.mpr c8;subst c8;rw [if_neg (show ¬ (false = true) by decide)] at H;have H' := Aside0.mk H;clear H;go_wp2
    go_loopg [3] kj1 (fun kq v3 w' => ∃ (x3_2 : Int), v3 = .int .i64 x3_2 ∧ Aside0 (spec_CatOk.l0 kq x3_2 a0_0 l0_1 = some r) ∧ Aside0 (kq ≤ kj1) ∧ Aside0 (w'.heap[gb218]? = some (.cells #[.int .i64 a0_0, (.slice A0_1 l0_1.length c0_1)] 25 (0, 0))) ∧ Aside0 (Below w.heap.size w w'))
    case atStart => exact ⟨(0), (by first | rfl | (simp; done) | (simp [*]; done)), H', ⟨Nat.le_refl _⟩, ⟨bl BK218.out⟩, ⟨by exact bb HB.out⟩⟩
    case round =>
     clear H';try clear c2
     try clear p2
     try clear c5
     try clear c8
     try clear hcz6_0
     try clear hcz6_1
     try clear hcz7_0
     try clear hcz7_1
     try clear hfz6_0
     try clear hfz6_1
     try clear hfz7_0
     try clear hfz7_1
     try clear p2
     obtain ⟨x3_2, rfl, HA, HK2, BK218, HB⟩ := hrel
     cases gk with
     | zero => exact absurd HA.out (by simp [spec_CatOk.l0])
     | succ k2 =>
      have H := HA.out;clear HA;simp only [spec_CatOk.l0] at H
      by_cases c9 : x3_2 < (l0_1.length : Int)
      ·rw [if_pos c9] at H;have c9b0 : decide (x3_2 < (l0_1.length : Int)) = true := decide_eq_true c9;clear c9
       by_cases c10 : 0 ≤ x3_2
       ·rw [if_pos c10] at H;have c10b0 : decide (0 ≤ x3_2) = true := decide_eq_true c10;clear c10;have HC11 := Aside0.mk H;clear H;obtain ⟨hcz12_0, hcz12_1, hfz12_0, hfz12_1⟩ := c2 BK218;have p220 : 0 ≤ (x3_2 : Int) := of_decide_eq_true (by first | (with_reducible assumption) | assumption);have q220 : x3_2 < (l0_1.length : Int) := of_decide_eq_true (by first | (with_reducible assumption) | assumption);obtain ⟨ad220, e220, hx220_0, hx220_1, hx220_2, hx220_3⟩ := at_T38 HR0_1.out x3_2 p220 q220
        cases e220
        replace hx220_0 := (HB.out.cell (World.block_lt_of_cell? w _ hx220_0)).trans hx220_0;replace hx220_1 := (HB.out.cell (World.block_lt_of_cell? w _ hx220_1)).trans hx220_1;replace hx220_2 := (HB.out.cell (World.block_lt_of_cell? w _ hx220_2)).trans hx220_2;replace hx220_3 := (HB.out.cell (World.block_lt_of_cell? w _ hx220_3)).trans hx220_3;replace p220 := eq_true p220;replace q220 := eq_true q220
        go_upto_region 7 with (first | ((with_reducible refine gate_dst (N := 4) rfl ?_); (try (refine gate_guard (by rfl) ?_; dsimp only)); refine box_event ?hg (N := 4) ?hd (cs := #[.int .i64 0, .string (⟨#[]⟩ : ByteArray), .int .i64 0, .string (⟨#[]⟩ : ByteArray)]) (t := 38) ?hr ?_; (case hd => rfl); (case hg => rfl); (case hr => first | (go_simp; done) | (go_simp; rfl)); intro gb221 hg w13 hbox hb; have BK221 := Aside0.mk (hbox); have GW221 := gw HB hg; have GE221 := gw HB hg; have NB218_221 := nl BK218 hg; have NB221_218 := ng BK218 hg; replace BK218 := kb BK218 hb; replace HB := hbb HB hb; clear hb hbox hg; have hnb14 := NB221_218.out; have hnc14 := NB218_221.out; obtain ⟨hcz15_0, hcz15_1, hcz15_2, hcz15_3, hfz15_0, hfz15_1, hfz15_2, hfz15_3⟩ := c4 BK221))
        (try simp only [Act.put, sB, s0, s1])
        go_cut [57] (fun v57 wc => ∃ (kq : Nat) (x57_10 : Bool), v57 = .bool x57_10 ∧ Aside0 (spec_CatOk.j2 kq x3_2 x57_10 a0_0 l0_1 ((rd_T38 l0_1 x3_2).f0) ((rd_T38 l0_1 x3_2).f1) ((rd_T38 l0_1 x3_2).f2) ((rd_T38 l0_1 x3_2).f3) = some r) ∧ Aside0 (kq ≤ k2) ∧ Aside0 (wc.heap[gb218]? = some (.cells #[.int .i64 a0_0, (.slice (some ad220) l0_1.length c0_1)] 25 (0, 0))) ∧ Aside0 (wc.heap[gb221]? = some (.cells #[.int .i64 ((rd_T38 l0_1 x3_2).f0), .string ((rd_T38 l0_1 x3_2).f1), .int .i64 ((rd_T38 l0_1 x3_2).f2), .string ((rd_T38 l0_1 x3_2).f3)] 38 (0, 0))) ∧ Aside0 (Below w.heap.size w wc))
        case first =>
         have H := HC11.out;clear HC11;replace H := Option.bind_eq_some_iff.mp H;obtain ⟨t222, A160, H⟩ := H;have A16 := Aside0.mk A160;clear A160
         by_cases c17 : t222 = true
         ·subst c17;rw [if_pos rfl] at H;replace H := Option.bind_eq_some_iff.mp H;obtain ⟨t223, A180, H⟩ := H;have A18 := Aside0.mk A180;clear A180
          by_cases c19 : t223 = true
          ·subst c19;rw [if_pos rfl] at H
           by_cases c20 : x3_2 > 0
           ·rw [if_pos c20] at H;have c20b0 : decide (0 < x3_2) = true := decide_eq_true c20;clear c20
            (first | rw [c20b0] | (simp only [i64_w, i32_w]; rw [c20b0]) | skip)
            obtain ⟨ji21, hji21⟩ : ∃ j_ : Int, (wrap64 (x3_2 - 1)) = j_ := ⟨_, rfl⟩;replace H : (if 0 ≤ (ji21) then (if (ji21) < (l0_1.length : Int) then ((spec_l9Less.f k2 ((rd_T38 l0_1 (ji21)).f0) ((rd_T38 l0_1 (ji21)).f1) ((rd_T38 l0_1 (ji21)).f2) ((rd_T38 l0_1 (ji21)).f3) ((rd_T38 l0_1 x3_2).f0) ((rd_T38 l0_1 x3_2).f1)).bind fun t225 => (spec_CatOk.j2 k2 x3_2 (!t225) a0_0 l0_1 ((rd_T38 l0_1 x3_2).f0) ((rd_T38 l0_1 x3_2).f1) ((rd_T38 l0_1 x3_2).f2) ((rd_T38 l0_1 x3_2).f3))) else (none)) else (none)) = some r := by first | (rw [hji21] at H; exact H) | (simp only [hji21] at H ⊢; exact H)
            (try rw [hji21] at A16)
            (try rw [hji21] at A18)
            have hji21w : (IntKind.i64.wrap (x3_2 - 1)) = ji21 := (i64_w _).trans hji21
            by_cases c22 : 0 ≤ (ji21)
            ·rw [if_pos c22] at H;have c22b0 : decide (0 ≤ (ji21)) = true := decide_eq_true c22;clear c22
             by_cases c23 : (ji21) < (l0_1.length : Int)
             ·rw [if_pos c23] at H;have c23b0 : decide ((ji21) < (l0_1.length : Int)) = true := decide_eq_true c23;clear c23;replace H := Option.bind_eq_some_iff.mp H;obtain ⟨t225, A240, H⟩ := H;have A24 := Aside0.mk A240;clear A240;have H' := Aside0.mk H;clear H
              try go_wp2
              obtain ⟨w25, hw_⟩ : ∃ W_, ((((w13.setCell ⟨gb221, 0, none⟩ (.int .i64 ((rd_T38 l0_1 x3_2).f0))).setCell ⟨gb221, 1, none⟩ (.string ((rd_T38 l0_1 x3_2).f1))).setCell ⟨gb221, 2, none⟩ (.int .i64 ((rd_T38 l0_1 x3_2).f2))).setCell ⟨gb221, 3, none⟩ (.string ((rd_T38 l0_1 x3_2).f3))) = W_ := ⟨_, rfl⟩;have hi_ : Lax gb221 w13 w25 := (by rw [← hw_]; infer_instance);have n0_ : Aside0 (w25.heap[gb218]? = some (.cells #[.int .i64 a0_0, .slice (some ad220) l0_1.length c0_1] 25 (0, 0))) := ⟨bx (a := gb221) BK218.out NB218_221.out⟩;have n1_ : Aside0 (w25.heap[gb221]? = some (.cells #[.int .i64 ((rd_T38 l0_1 x3_2).f0), .string ((rd_T38 l0_1 x3_2).f1), .int .i64 ((rd_T38 l0_1 x3_2).f2), .string ((rd_T38 l0_1 x3_2).f3)] 38 (0, 0))) := ⟨by rw [← hw_]; exact (bp BK221.out (by rfl))⟩;have n2_ : Aside0 (Below w.heap.size w w25) := ⟨by exact bbx (a := gb221) HB.out GE221.out⟩
              (try clear BK218)
              (try clear BK221)
              (try clear HB)
              clear hi_
              (try rw [hw_])
              clear hw_;have BK218 := n0_;have BK221 := n1_;have HB := n2_;clear n0_ n1_ n2_;replace BK218 := Aside0.mk (blk_drew BK218.out);replace BK221 := Aside0.mk (blk_drew BK221.out);replace HB := Aside0.mk (below_drew1 HB.out);have p224 : 0 ≤ ((ji21) : Int) := of_decide_eq_true (by first | (with_reducible assumption) | assumption);have q224 : (ji21) < (l0_1.length : Int) := of_decide_eq_true (by first | (with_reducible assumption) | assumption);obtain ⟨ad224, e224, hx224_0, hx224_1, hx224_2, hx224_3⟩ := at_T38 HR0_1.out (ji21) p224 q224;have hw224_3 := hx224_3;have hw224_2 := hx224_2;have hw224_1 := hx224_1;have hw224_0 := hx224_0;obtain rfl : ad220 = ad224 := (by injection e224);replace hx224_0 := (HB.out.cell (World.block_lt_of_cell? w _ hx224_0)).trans hx224_0;replace hx224_1 := (HB.out.cell (World.block_lt_of_cell? w _ hx224_1)).trans hx224_1;replace hx224_2 := (HB.out.cell (World.block_lt_of_cell? w _ hx224_2)).trans hx224_2;replace hx224_3 := (HB.out.cell (World.block_lt_of_cell? w _ hx224_3)).trans hx224_3;replace p224 := eq_true p224;replace q224 := eq_true q224;refine start_ (n := 29) (S := fun w' => w'.cell? ⟨gb221, 0, none⟩ = some (.int .i64 ((rd_T38 l0_1 x3_2).f0)) ∧ w'.cell? ⟨gb221, 1, none⟩ = some (.string ((rd_T38 l0_1 x3_2).f1)) ∧ w'.cell? ⟨gb221, 2, none⟩ = some (.int .i64 ((rd_T38 l0_1 x3_2).f2)) ∧ w'.cell? ⟨gb221, 3, none⟩ = some (.string ((rd_T38 l0_1 x3_2).f3)) ∧ w'.cell? ⟨gb218, 0, none⟩ = some (.int .i64 a0_0) ∧ w'.cell? ⟨gb218, 1, none⟩ = some (.slice (some ad220) l0_1.length c0_1) ∧ w'.cell? (ad220.add (((ji21)).toNat * 4)) = some (.int .i64 ((rd_T38 l0_1 (ji21)).f0)) ∧ w'.cell? ⟨(ad220.add (((ji21)).toNat * 4)).block, (ad220.add (((ji21)).toNat * 4)).off + 1, none⟩ = some (.string ((rd_T38 l0_1 (ji21)).f1)) ∧ w'.cell? ⟨(ad220.add (((ji21)).toNat * 4)).block, (ad220.add (((ji21)).toNat * 4)).off + 2, none⟩ = some (.int .i64 ((rd_T38 l0_1 (ji21)).f2)) ∧ w'.cell? ⟨(ad220.add (((ji21)).toNat * 4)).block, (ad220.add (((ji21)).toNat * 4)).off + 3, none⟩ = some (.string ((rd_T38 l0_1 (ji21)).f3))) (ds := []) #[ff,ff,ff,ff,ff,ff,ff,ff,ff,ff,ff,ff,ff,ff,ff,ff,ff,ff,ff,ff,ff,ff,ff,ff,ff,ff,ff,ff,ff] (by kernel_rfl) rfl rfl ⟨(blk_cell BK221.out 0).trans rfl, (blk_cell BK221.out 1).trans rfl, (blk_cell BK221.out 2).trans rfl, (blk_cell BK221.out 3).trans rfl, (blk_cell BK218.out 0).trans rfl, (blk_cell BK218.out 1).trans rfl, ((HB.out.cell (World.block_lt_of_cell? w _ hw224_0)).trans hw224_0), ((HB.out.cell (World.block_lt_of_cell? w _ hw224_1)).trans hw224_1), ((HB.out.cell (World.block_lt_of_cell? w _ hw224_2)).trans hw224_2), ((HB.out.cell (World.block_lt_of_cell? w _ hw224_3)).trans hw224_3)⟩ (fun hHeld => ?_); refine with_tabW spec_CatOk.tab7 spec_CatOk.bits7 (fun HT_ HW_ => ?_)
              generalize w25.drew = w26 at BK218 BK221 HB hx224_0 hx224_1 hx224_2 hx224_3 hHeld ⊢;refine take_ (i := 0) (N := some 29) (v := ?_) (a' := ?_) #[tt,ff,ff,ff,ff,ff,ff,ff,ff,ff,ff,ff,ff,ff,ff,ff,ff,ff,ff,ff,ff,ff,ff,ff,ff,ff,ff,ff,ff] rfl rfl (take_ofW HT_.out HW_.out (by kernel_rfl)) (fun _ _ _ h => h) (Or.inl ⟨by rfl, ?_⟩) hHeld ?_ ?_;rotate_left
              ·rintro w' ⟨s0, s1, s2, s3, s4, s5, s6, s7, s8, s9⟩;go_simp;with_reducible rfl
              rotate_left;·simp only [Act.put, sB, s0, s1, i64_w, i32_w];rfl
              refine one_ (i := 1) (N := some 30) #[tt,tt,ff,ff,ff,ff,ff,ff,ff,ff,ff,ff,ff,ff,ff,ff,ff,ff,ff,ff,ff,ff,ff,ff,ff,ff,ff,ff,ff] rfl rfl (one_of HT_.out (by kernel_rfl)) (by decide) (fun K hK => ?_);refine goes_ Try.func23 (by kernel_rfl) rfl #[.agg #[.int .i64 ((rd_T38 l0_1 x3_2).f0), .string ((rd_T38 l0_1 x3_2).f1), .int .i64 ((rd_T38 l0_1 x3_2).f2), .string ((rd_T38 l0_1 x3_2).f3)]] (by rfl) rfl rfl (by (try simp only [List.map_toArray, List.map_cons, List.map_nil]); first | done | rfl | (simp only [List.length_drop, List.length_take]; rfl)) ?_
              with_reducible refine (spec_l9Ok.calls k2 ((rd_T38 l0_1 x3_2).f0) ((rd_T38 l0_1 x3_2).f1) ((rd_T38 l0_1 x3_2).f2) ((rd_T38 l0_1 x3_2).f3) true _ A16.out).mono ?_
              rintro e w27 ⟨rfl, hb⟩;refine ⟨_, rfl, ?_⟩;replace BK218 := kb BK218 hb;replace BK221 := kb BK221 hb;replace HB := hbb HB hb
              (try clear hb)
              (try clear hb2)
              (try clear hk)
              (try clear hi)
              refine hK.out _ _ ⟨(blk_cell BK221.out 0).trans rfl, (blk_cell BK221.out 1).trans rfl, (blk_cell BK221.out 2).trans rfl, (blk_cell BK221.out 3).trans rfl, (blk_cell BK218.out 0).trans rfl, (blk_cell BK218.out 1).trans rfl, ((HB.out.cell (World.block_lt_of_cell? w _ hw224_0)).trans hw224_0), ((HB.out.cell (World.block_lt_of_cell? w _ hw224_1)).trans hw224_1), ((HB.out.cell (World.block_lt_of_cell? w _ hw224_2)).trans hw224_2), ((HB.out.cell (World.block_lt_of_cell? w _ hw224_3)).trans hw224_3)⟩ (fun hHeld => ?_);clear hK K;refine norm_ (a' := ?_) ?_ ?_;rotate_left
              ·show Act.put _ (some 30) _ = _;simp only [Act.put, sB, s0, s1, i64_w, i32_w];rfl
              refine pure_ (i := 2) (N := some 31) (v := ?_) (a' := ?_) #[tt,tt,tt,ff,ff,ff,ff,ff,ff,ff,ff,ff,ff,ff,ff,ff,ff,ff,ff,ff,ff,ff,ff,ff,ff,ff,ff,ff,ff] rfl rfl (any_of HT_.out (by kernel_rfl)) (fun _ _ _ h => h) (Or.inl ⟨by rfl, ?_⟩) ?_ ?_;rotate_left
              ·intro w';go_simp;with_reducible rfl
              rotate_left;·simp only [Act.put, sB, s0, s1, i64_w, i32_w];rfl
              refine pure_ (i := 3) (N := some 32) (v := ?_) (a' := ?_) #[tt,tt,tt,tt,ff,ff,ff,ff,ff,ff,ff,ff,ff,ff,ff,ff,ff,ff,ff,ff,ff,ff,ff,ff,ff,ff,ff,ff,ff] rfl rfl (any_of HT_.out (by kernel_rfl)) (fun _ _ _ h => h) (Or.inl ⟨by rfl, ?_⟩) ?_ ?_;rotate_left
              ·intro w';go_simp;with_reducible rfl
              rotate_left;·simp only [Act.put, sB, s0, s1, i64_w, i32_w];rfl
              refine pure_ (i := 4) (N := some 33) (v := ?_) (a' := ?_) #[tt,tt,tt,tt,tt,ff,ff,ff,ff,ff,ff,ff,ff,ff,ff,ff,ff,ff,ff,ff,ff,ff,ff,ff,ff,ff,ff,ff,ff] rfl rfl (any_of HT_.out (by kernel_rfl)) (fun _ _ _ h => h) (Or.inl ⟨by rfl, ?_⟩) ?_ ?_;rotate_left
              ·intro w';go_simp;with_reducible rfl
              rotate_left;·simp only [Act.put, sB, s0, s1, i64_w, i32_w];rfl
              refine pure_ (i := 6) (N := some 35) (v := ?_) (a' := ?_) #[tt,tt,tt,tt,tt,ff,tt,ff,ff,ff,ff,ff,ff,ff,ff,ff,ff,ff,ff,ff,ff,ff,ff,ff,ff,ff,ff,ff,ff] rfl rfl (any_of HT_.out (by kernel_rfl)) (fun _ _ _ h => h) (Or.inl ⟨by rfl, ?_⟩) ?_ ?_;rotate_left
              ·intro w';go_simp;with_reducible rfl
              rotate_left;·simp only [Act.put, sB, s0, s1, i64_w, i32_w];rfl
              refine take_ (i := 5) (N := some 34) (v := ?_) (a' := ?_) #[tt,tt,tt,tt,tt,tt,tt,ff,ff,ff,ff,ff,ff,ff,ff,ff,ff,ff,ff,ff,ff,ff,ff,ff,ff,ff,ff,ff,ff] rfl rfl (take_ofW HT_.out HW_.out (by kernel_rfl)) (fun _ _ _ h => h) (Or.inl ⟨by rfl, ?_⟩) hHeld ?_ ?_;rotate_left
              ·rintro w' ⟨s0, s1, s2, s3, s4, s5, s6, s7, s8, s9⟩;go_simp;with_reducible rfl
              rotate_left;·simp only [Act.put, sB, s0, s1, i64_w, i32_w];rfl
              refine take_ (i := 7) (N := some 36) (v := ?_) (a' := ?_) #[tt,tt,tt,tt,tt,tt,tt,tt,ff,ff,ff,ff,ff,ff,ff,ff,ff,ff,ff,ff,ff,ff,ff,ff,ff,ff,ff,ff,ff] rfl rfl (take_ofW HT_.out HW_.out (by kernel_rfl)) (fun _ _ _ h => h) (Or.inl ⟨by rfl, ?_⟩) hHeld ?_ ?_;rotate_left
              ·rintro w' ⟨s0, s1, s2, s3, s4, s5, s6, s7, s8, s9⟩;go_simp;with_reducible rfl
              rotate_left;·simp only [Act.put, sB, s0, s1, i64_w, i32_w];rfl
              refine one_ (i := 8) (N := some 37) #[tt,tt,tt,tt,tt,tt,tt,tt,tt,ff,ff,ff,ff,ff,ff,ff,ff,ff,ff,ff,ff,ff,ff,ff,ff,ff,ff,ff,ff] rfl rfl (one_of HT_.out (by kernel_rfl)) (by decide) (fun K hK => ?_);refine goes_ Try.func28 (by kernel_rfl) rfl #[.int .i64 ((rd_T38 l0_1 x3_2).f2), .int .i64 1, .int .i64 a0_0] (by rfl) rfl rfl (by (try simp only [List.map_toArray, List.map_cons, List.map_nil]); first | done | rfl | (simp only [List.length_drop, List.length_take]; rfl)) ?_
              with_reducible refine (spec_l1In.calls ((rd_T38 l0_1 x3_2).f2) 1 a0_0 true _ A18.out).mono ?_
              rintro e w' ⟨rfl, ⟨nd, rfl⟩⟩;refine ⟨_, rfl, ?_⟩;refine hK.out _ _ ⟨(blk_cell BK221.out 0).trans rfl, (blk_cell BK221.out 1).trans rfl, (blk_cell BK221.out 2).trans rfl, (blk_cell BK221.out 3).trans rfl, (blk_cell BK218.out 0).trans rfl, (blk_cell BK218.out 1).trans rfl, ((HB.out.cell (World.block_lt_of_cell? w _ hw224_0)).trans hw224_0), ((HB.out.cell (World.block_lt_of_cell? w _ hw224_1)).trans hw224_1), ((HB.out.cell (World.block_lt_of_cell? w _ hw224_2)).trans hw224_2), ((HB.out.cell (World.block_lt_of_cell? w _ hw224_3)).trans hw224_3)⟩ (fun hHeld => ?_);clear hK K;refine norm_ (a' := ?_) ?_ ?_;rotate_left
              ·show Act.put _ (some 37) _ = _;simp only [Act.put, sB, s0, s1, i64_w, i32_w];rfl
              refine pure_ (i := 9) (N := some 38) (v := ?_) (a' := ?_) #[tt,tt,tt,tt,tt,tt,tt,tt,tt,tt,ff,ff,ff,ff,ff,ff,ff,ff,ff,ff,ff,ff,ff,ff,ff,ff,ff,ff,ff] rfl rfl (any_of HT_.out (by kernel_rfl)) (fun _ _ _ h => h) (Or.inl ⟨by rfl, ?_⟩) ?_ ?_;rotate_left
              ·intro w';go_simp;with_reducible rfl
              rotate_left;·simp only [Act.put, sB, s0, s1, i64_w, i32_w];rfl
              refine pure_ (i := 10) (N := some 39) (v := ?_) (a' := ?_) #[tt,tt,tt,tt,tt,tt,tt,tt,tt,tt,tt,ff,ff,ff,ff,ff,ff,ff,ff,ff,ff,ff,ff,ff,ff,ff,ff,ff,ff] rfl rfl (any_of HT_.out (by kernel_rfl)) (fun _ _ _ h => h) (Or.inl ⟨by rfl, ?_⟩) ?_ ?_;rotate_left
              ·intro w';go_simp;with_reducible rfl
              rotate_left;·simp only [Act.put, sB, s0, s1, i64_w, i32_w];rfl
              refine pure_ (i := 11) (N := some 40) (v := ?_) (a' := ?_) #[tt,tt,tt,tt,tt,tt,tt,tt,tt,tt,tt,tt,ff,ff,ff,ff,ff,ff,ff,ff,ff,ff,ff,ff,ff,ff,ff,ff,ff] rfl rfl (any_of HT_.out (by kernel_rfl)) (fun _ _ _ h => h) (Or.inl ⟨by rfl, ?_⟩) ?_ ?_;rotate_left
              ·intro w';go_simp;with_reducible rfl
              rotate_left;·simp only [Act.put, sB, s0, s1, i64_w, i32_w];rfl
              refine pure_ (i := 12) (N := some 41) (v := ?_) (a' := ?_) #[tt,tt,tt,tt,tt,tt,tt,tt,tt,tt,tt,tt,tt,ff,ff,ff,ff,ff,ff,ff,ff,ff,ff,ff,ff,ff,ff,ff,ff] rfl rfl (any_of HT_.out (by kernel_rfl)) (fun _ _ _ h => h) (Or.inl ⟨by rfl, ?_⟩) ?_ ?_;rotate_left
              ·intro w';go_simp;with_reducible rfl
              rotate_left;·simp only [Act.put, sB, s0, s1, i64_w, i32_w];rfl
              refine pure_ (i := 13) (N := some 42) (v := ?_) (a' := ?_) #[tt,tt,tt,tt,tt,tt,tt,tt,tt,tt,tt,tt,tt,tt,ff,ff,ff,ff,ff,ff,ff,ff,ff,ff,ff,ff,ff,ff,ff] rfl rfl (any_of HT_.out (by kernel_rfl)) (fun _ _ _ h => h) (Or.inl ⟨by rfl, ?_⟩) ?_ ?_;rotate_left
              ·intro w';go_simp;with_reducible rfl
              rotate_left;·simp only [Act.put, sB, s0, s1, i64_w, i32_w];rfl
              refine pure_ (i := 14) (N := some 43) (v := ?_) (a' := ?_) #[tt,tt,tt,tt,tt,tt,tt,tt,tt,tt,tt,tt,tt,tt,tt,ff,ff,ff,ff,ff,ff,ff,ff,ff,ff,ff,ff,ff,ff] rfl rfl (any_of HT_.out (by kernel_rfl)) (fun _ _ _ h => h) (Or.inl ⟨by rfl, ?_⟩) ?_ ?_;rotate_left
              ·intro w';go_simp;with_reducible rfl
              rotate_left;·simp only [Act.put, sB, s0, s1, i64_w, i32_w];rfl
              refine pure_ (i := 15) (N := some 44) (v := ?_) (a' := ?_) #[tt,tt,tt,tt,tt,tt,tt,tt,tt,tt,tt,tt,tt,tt,tt,tt,ff,ff,ff,ff,ff,ff,ff,ff,ff,ff,ff,ff,ff] rfl rfl (any_of HT_.out (by kernel_rfl)) (fun _ _ _ h => h) (Or.inl ⟨by rfl, ?_⟩) ?_ ?_;rotate_left
              ·intro w';go_simp;with_reducible rfl
              rotate_left;·simp only [Act.put, sB, s0, s1, i64_w, i32_w];rfl
              refine pure_ (i := 17) (N := some 46) (v := ?_) (a' := ?_) #[tt,tt,tt,tt,tt,tt,tt,tt,tt,tt,tt,tt,tt,tt,tt,tt,ff,tt,ff,ff,ff,ff,ff,ff,ff,ff,ff,ff,ff] rfl rfl (any_of HT_.out (by kernel_rfl)) (fun _ _ _ h => h) (Or.inl ⟨by rfl, ?_⟩) ?_ ?_;rotate_left
              ·intro w';go_simp;with_reducible rfl
              rotate_left;·simp only [Act.put, sB, s0, s1, i64_w, i32_w];rfl
              refine pure_ (i := 18) (N := some 47) (v := ?_) (a' := ?_) #[tt,tt,tt,tt,tt,tt,tt,tt,tt,tt,tt,tt,tt,tt,tt,tt,ff,tt,tt,ff,ff,ff,ff,ff,ff,ff,ff,ff,ff] rfl rfl (any_of HT_.out (by kernel_rfl)) (fun _ _ _ h => h) (Or.inl ⟨by rfl, ?_⟩) ?_ ?_;rotate_left
              ·intro w';go_simp;with_reducible rfl
              rotate_left;·simp only [Act.put, sB, s0, s1, i64_w, i32_w];rfl
              refine pure_ (i := 21) (N := some 50) (v := ?_) (a' := ?_) #[tt,tt,tt,tt,tt,tt,tt,tt,tt,tt,tt,tt,tt,tt,tt,tt,ff,tt,tt,ff,ff,tt,ff,ff,ff,ff,ff,ff,ff] rfl rfl (any_of HT_.out (by kernel_rfl)) (fun _ _ _ h => h) (Or.inl ⟨by rfl, ?_⟩) ?_ ?_;rotate_left
              ·intro w';go_simp;with_reducible rfl
              rotate_left;·simp only [Act.put, sB, s0, s1, i64_w, i32_w];rfl
              refine pure_ (i := 23) (N := some 52) (v := ?_) (a' := ?_) #[tt,tt,tt,tt,tt,tt,tt,tt,tt,tt,tt,tt,tt,tt,tt,tt,ff,tt,tt,ff,ff,tt,ff,tt,ff,ff,ff,ff,ff] rfl rfl (any_of HT_.out (by kernel_rfl)) (fun _ _ _ h => h) (Or.inl ⟨by rfl, ?_⟩) ?_ ?_;rotate_left
              ·intro w';go_simp;with_reducible rfl
              rotate_left;·simp only [Act.put, sB, s0, s1, i64_w, i32_w];rfl
              refine take_ (i := 16) (N := some 45) (v := ?_) (a' := ?_) #[tt,tt,tt,tt,tt,tt,tt,tt,tt,tt,tt,tt,tt,tt,tt,tt,tt,tt,tt,ff,ff,tt,ff,tt,ff,ff,ff,ff,ff] rfl rfl (take_ofW HT_.out HW_.out (by kernel_rfl)) (fun _ _ _ h => h) (Or.inl ⟨by rfl, ?_⟩) hHeld ?_ ?_;rotate_left
              ·rintro w' ⟨s0, s1, s2, s3, s4, s5, s6, s7, s8, s9⟩;go_simp;with_reducible rfl
              rotate_left;·simp only [Act.put, sB, s0, s1, i64_w, i32_w];rfl
              refine pure_ (i := 19) (N := some 48) (v := ?_) (a' := ?_) #[tt,tt,tt,tt,tt,tt,tt,tt,tt,tt,tt,tt,tt,tt,tt,tt,tt,tt,tt,tt,ff,tt,ff,tt,ff,ff,ff,ff,ff] rfl rfl (any_of HT_.out (by kernel_rfl)) (fun _ _ _ h => h) (Or.inl ⟨by rfl, ?_⟩) ?_ ?_;rotate_left
              ·intro w';go_simp;with_reducible rfl
              rotate_left;·simp only [Act.put, sB, s0, s1, i64_w, i32_w];rfl
              refine take_ (i := 20) (N := some 49) (v := ?_) (a' := ?_) #[tt,tt,tt,tt,tt,tt,tt,tt,tt,tt,tt,tt,tt,tt,tt,tt,tt,tt,tt,tt,tt,tt,ff,tt,ff,ff,ff,ff,ff] rfl rfl (take_ofW HT_.out HW_.out (by kernel_rfl)) (fun _ _ _ h => h) (Or.inl ⟨by rfl, ?_⟩) hHeld ?_ ?_;rotate_left
              ·rintro w' ⟨s0, s1, s2, s3, s4, s5, s6, s7, s8, s9⟩;go_simp;with_reducible rfl
              rotate_left;·simp only [Act.put, sB, s0, s1, i64_w, i32_w];rfl
              refine take_ (i := 22) (N := some 51) (v := ?_) (a' := ?_) #[tt,tt,tt,tt,tt,tt,tt,tt,tt,tt,tt,tt,tt,tt,tt,tt,tt,tt,tt,tt,tt,tt,tt,tt,ff,ff,ff,ff,ff] rfl rfl (take_ofW HT_.out HW_.out (by kernel_rfl)) (fun _ _ _ h => h) (Or.inl ⟨by rfl, ?_⟩) hHeld ?_ ?_;rotate_left
              ·rintro w' ⟨s0, s1, s2, s3, s4, s5, s6, s7, s8, s9⟩;go_simp;with_reducible rfl
              rotate_left;·simp only [Act.put, sB, s0, s1, i64_w, i32_w];rfl
              refine take_ (i := 24) (N := some 53) (v := ?_) (a' := ?_) #[tt,tt,tt,tt,tt,tt,tt,tt,tt,tt,tt,tt,tt,tt,tt,tt,tt,tt,tt,tt,tt,tt,tt,tt,tt,ff,ff,ff,ff] rfl rfl (take_ofW HT_.out HW_.out (by kernel_rfl)) (fun _ _ _ h => h) (Or.inl ⟨by rfl, ?_⟩) hHeld ?_ ?_;rotate_left
              ·rintro w' ⟨s0, s1, s2, s3, s4, s5, s6, s7, s8, s9⟩;go_simp;with_reducible rfl
              rotate_left;·simp only [Act.put, sB, s0, s1, i64_w, i32_w];rfl
              refine one_ (i := 25) (N := some 54) #[tt,tt,tt,tt,tt,tt,tt,tt,tt,tt,tt,tt,tt,tt,tt,tt,tt,tt,tt,tt,tt,tt,tt,tt,tt,tt,ff,ff,ff] rfl rfl (one_of HT_.out (by kernel_rfl)) (by decide) (fun K hK => ?_);refine goes_ Try.func29 (by kernel_rfl) rfl #[.agg #[.int .i64 ((rd_T38 l0_1 (ji21)).f0), .string ((rd_T38 l0_1 (ji21)).f1), .int .i64 ((rd_T38 l0_1 (ji21)).f2), .string ((rd_T38 l0_1 (ji21)).f3)], .int .i64 ((rd_T38 l0_1 x3_2).f0), .string ((rd_T38 l0_1 x3_2).f1)] (by rfl) rfl rfl (by (try simp only [List.map_toArray, List.map_cons, List.map_nil]); first | done | (simp only [hji21]; rfl) | rfl | (simp only [List.length_drop, List.length_take]; rfl)) ?_
              with_reducible refine (spec_l9Less.calls k2 ((rd_T38 l0_1 (ji21)).f0) ((rd_T38 l0_1 (ji21)).f1) ((rd_T38 l0_1 (ji21)).f2) ((rd_T38 l0_1 (ji21)).f3) ((rd_T38 l0_1 x3_2).f0) ((rd_T38 l0_1 x3_2).f1) t225 _ A24.out).mono ?_
              rintro e w28 ⟨rfl, hb⟩;refine ⟨_, rfl, ?_⟩;replace BK218 := kb BK218 hb;replace BK221 := kb BK221 hb;replace HB := hbb HB hb
              (try clear hb)
              (try clear hb2)
              (try clear hk)
              (try clear hi)
              refine hK.out _ _ ⟨(blk_cell BK221.out 0).trans rfl, (blk_cell BK221.out 1).trans rfl, (blk_cell BK221.out 2).trans rfl, (blk_cell BK221.out 3).trans rfl, (blk_cell BK218.out 0).trans rfl, (blk_cell BK218.out 1).trans rfl, ((HB.out.cell (World.block_lt_of_cell? w _ hw224_0)).trans hw224_0), ((HB.out.cell (World.block_lt_of_cell? w _ hw224_1)).trans hw224_1), ((HB.out.cell (World.block_lt_of_cell? w _ hw224_2)).trans hw224_2), ((HB.out.cell (World.block_lt_of_cell? w _ hw224_3)).trans hw224_3)⟩ (fun hHeld => ?_);clear hK K;refine norm_ (a' := ?_) ?_ ?_;rotate_left
              ·show Act.put _ (some 54) _ = _;simp only [Act.put, sB, s0, s1, i64_w, i32_w];rfl
              refine pure_ (i := 26) (N := some 55) (v := ?_) (a' := ?_) #[tt,tt,tt,tt,tt,tt,tt,tt,tt,tt,tt,tt,tt,tt,tt,tt,tt,tt,tt,tt,tt,tt,tt,tt,tt,tt,tt,ff,ff] rfl rfl (any_of HT_.out (by kernel_rfl)) (fun _ _ _ h => h) (Or.inl ⟨by rfl, ?_⟩) ?_ ?_;rotate_left
              ·intro w';go_simp;with_reducible rfl
              rotate_left;·simp only [Act.put, sB, s0, s1, i64_w, i32_w];rfl
              refine pure_ (i := 27) (N := some 56) (v := ?_) (a' := ?_) #[tt,tt,tt,tt,tt,tt,tt,tt,tt,tt,tt,tt,tt,tt,tt,tt,tt,tt,tt,tt,tt,tt,tt,tt,tt,tt,tt,tt,ff] rfl rfl (any_of HT_.out (by kernel_rfl)) (fun _ _ _ h => h) (Or.inl ⟨by rfl, ?_⟩) ?_ ?_;rotate_left
              ·intro w';go_simp;with_reducible rfl
              rotate_left;·simp only [Act.put, sB, s0, s1, i64_w, i32_w];rfl
              refine pure_ (i := 28) (N := some 57) (v := ?_) (a' := ?_) #[tt,tt,tt,tt,tt,tt,tt,tt,tt,tt,tt,tt,tt,tt,tt,tt,tt,tt,tt,tt,tt,tt,tt,tt,tt,tt,tt,tt,tt] rfl rfl (any_of HT_.out (by kernel_rfl)) (fun _ _ _ h => h) (Or.inl ⟨by rfl, ?_⟩) ?_ ?_;rotate_left
              ·intro w';go_simp;with_reducible rfl
              rotate_left;·simp only [Act.put, sB, s0, s1, i64_w, i32_w];rfl
              refine done_ (done_of HT_.out (by kernel_rfl)) ?_
              try go_wp2
              go_meet
              case rel => exact ⟨_, (!t225), (by first | rfl | (simp; done) | (simp [*]; done)), H', ⟨by have := HJ1.out; have := HK2.out; first | omega | exact Nat.le_refl _⟩, ⟨bl BK218.out⟩, ⟨bl BK221.out⟩, ⟨by exact bb HB.out⟩⟩
             rw [if_neg c23] at H;exact absurd H (by simp)
            rw [if_neg c22] at H;exact absurd H (by simp)
           rw [if_neg c20] at H;have c20b0 : decide (0 < x3_2) = false := decide_eq_false c20;clear c20
           (first | rw [c20b0] | (simp only [i64_w, i32_w]; rw [c20b0]) | skip)
           have H' := Aside0.mk H;clear H
           try go_wp2
           obtain ⟨w29, hw_⟩ : ∃ W_, ((((w13.setCell ⟨gb221, 0, none⟩ (.int .i64 ((rd_T38 l0_1 x3_2).f0))).setCell ⟨gb221, 1, none⟩ (.string ((rd_T38 l0_1 x3_2).f1))).setCell ⟨gb221, 2, none⟩ (.int .i64 ((rd_T38 l0_1 x3_2).f2))).setCell ⟨gb221, 3, none⟩ (.string ((rd_T38 l0_1 x3_2).f3))) = W_ := ⟨_, rfl⟩;have hi_ : Lax gb221 w13 w29 := (by rw [← hw_]; infer_instance);have n0_ : Aside0 (w29.heap[gb218]? = some (.cells #[.int .i64 a0_0, .slice (some ad220) l0_1.length c0_1] 25 (0, 0))) := ⟨bx (a := gb221) BK218.out NB218_221.out⟩;have n1_ : Aside0 (w29.heap[gb221]? = some (.cells #[.int .i64 ((rd_T38 l0_1 x3_2).f0), .string ((rd_T38 l0_1 x3_2).f1), .int .i64 ((rd_T38 l0_1 x3_2).f2), .string ((rd_T38 l0_1 x3_2).f3)] 38 (0, 0))) := ⟨by rw [← hw_]; exact (bp BK221.out (by rfl))⟩;have n2_ : Aside0 (Below w.heap.size w w29) := ⟨by exact bbx (a := gb221) HB.out GE221.out⟩
           (try clear BK218)
           (try clear BK221)
           (try clear HB)
           clear hi_
           (try rw [hw_])
           clear hw_;have BK218 := n0_;have BK221 := n1_;have HB := n2_;clear n0_ n1_ n2_;replace BK218 := Aside0.mk (blk_drew BK218.out);replace BK221 := Aside0.mk (blk_drew BK221.out);replace HB := Aside0.mk (below_drew1 HB.out);refine start_ (n := 29) (S := fun w' => w'.cell? ⟨gb221, 0, none⟩ = some (.int .i64 ((rd_T38 l0_1 x3_2).f0)) ∧ w'.cell? ⟨gb221, 1, none⟩ = some (.string ((rd_T38 l0_1 x3_2).f1)) ∧ w'.cell? ⟨gb221, 2, none⟩ = some (.int .i64 ((rd_T38 l0_1 x3_2).f2)) ∧ w'.cell? ⟨gb221, 3, none⟩ = some (.string ((rd_T38 l0_1 x3_2).f3)) ∧ w'.cell? ⟨gb218, 0, none⟩ = some (.int .i64 a0_0) ∧ w'.cell? ⟨gb218, 1, none⟩ = some (.slice (some ad220) l0_1.length c0_1)) (ds := []) #[ff,ff,ff,ff,ff,ff,ff,ff,ff,ff,ff,ff,ff,ff,ff,ff,ff,ff,ff,ff,ff,ff,ff,ff,ff,ff,ff,ff,ff] (by kernel_rfl) rfl rfl ⟨(blk_cell BK221.out 0).trans rfl, (blk_cell BK221.out 1).trans rfl, (blk_cell BK221.out 2).trans rfl, (blk_cell BK221.out 3).trans rfl, (blk_cell BK218.out 0).trans rfl, (blk_cell BK218.out 1).trans rfl⟩ (fun hHeld => ?_); refine with_tabW spec_CatOk.tab7 spec_CatOk.bits7 (fun HT_ HW_ => ?_)
           generalize w29.drew = w30 at BK218 BK221 HB hHeld ⊢;refine take_ (i := 0) (N := some 29) (v := ?_) (a' := ?_) #[tt,ff,ff,ff,ff,ff,ff,ff,ff,ff,ff,ff,ff,ff,ff,ff,ff,ff,ff,ff,ff,ff,ff,ff,ff,ff,ff,ff,ff] rfl rfl (take_ofW HT_.out HW_.out (by kernel_rfl)) (fun _ _ _ h => h) (Or.inl ⟨by rfl, ?_⟩) hHeld ?_ ?_;rotate_left
           ·rintro w' ⟨s0, s1, s2, s3, s4, s5⟩;go_simp;with_reducible rfl
           rotate_left;·simp only [Act.put, sB, s0, s1, i64_w, i32_w];rfl
           refine one_ (i := 1) (N := some 30) #[tt,tt,ff,ff,ff,ff,ff,ff,ff,ff,ff,ff,ff,ff,ff,ff,ff,ff,ff,ff,ff,ff,ff,ff,ff,ff,ff,ff,ff] rfl rfl (one_of HT_.out (by kernel_rfl)) (by decide) (fun K hK => ?_);refine goes_ Try.func23 (by kernel_rfl) rfl #[.agg #[.int .i64 ((rd_T38 l0_1 x3_2).f0), .string ((rd_T38 l0_1 x3_2).f1), .int .i64 ((rd_T38 l0_1 x3_2).f2), .string ((rd_T38 l0_1 x3_2).f3)]] (by rfl) rfl rfl (by (try simp only [List.map_toArray, List.map_cons, List.map_nil]); first | done | rfl | (simp only [List.length_drop, List.length_take]; rfl)) ?_
           with_reducible refine (spec_l9Ok.calls k2 ((rd_T38 l0_1 x3_2).f0) ((rd_T38 l0_1 x3_2).f1) ((rd_T38 l0_1 x3_2).f2) ((rd_T38 l0_1 x3_2).f3) true _ A16.out).mono ?_
           rintro e w31 ⟨rfl, hb⟩;refine ⟨_, rfl, ?_⟩;replace BK218 := kb BK218 hb;replace BK221 := kb BK221 hb;replace HB := hbb HB hb
           (try clear hb)
           (try clear hb2)
           (try clear hk)
           (try clear hi)
           refine hK.out _ _ ⟨(blk_cell BK221.out 0).trans rfl, (blk_cell BK221.out 1).trans rfl, (blk_cell BK221.out 2).trans rfl, (blk_cell BK221.out 3).trans rfl, (blk_cell BK218.out 0).trans rfl, (blk_cell BK218.out 1).trans rfl⟩ (fun hHeld => ?_);clear hK K;refine norm_ (a' := ?_) ?_ ?_;rotate_left
           ·show Act.put _ (some 30) _ = _;simp only [Act.put, sB, s0, s1, i64_w, i32_w];rfl
           refine pure_ (i := 2) (N := some 31) (v := ?_) (a' := ?_) #[tt,tt,tt,ff,ff,ff,ff,ff,ff,ff,ff,ff,ff,ff,ff,ff,ff,ff,ff,ff,ff,ff,ff,ff,ff,ff,ff,ff,ff] rfl rfl (any_of HT_.out (by kernel_rfl)) (fun _ _ _ h => h) (Or.inl ⟨by rfl, ?_⟩) ?_ ?_;rotate_left
           ·intro w';go_simp;with_reducible rfl
           rotate_left;·simp only [Act.put, sB, s0, s1, i64_w, i32_w];rfl
           refine pure_ (i := 3) (N := some 32) (v := ?_) (a' := ?_) #[tt,tt,tt,tt,ff,ff,ff,ff,ff,ff,ff,ff,ff,ff,ff,ff,ff,ff,ff,ff,ff,ff,ff,ff,ff,ff,ff,ff,ff] rfl rfl (any_of HT_.out (by kernel_rfl)) (fun _ _ _ h => h) (Or.inl ⟨by rfl, ?_⟩) ?_ ?_;rotate_left
           ·intro w';go_simp;with_reducible rfl
           rotate_left;·simp only [Act.put, sB, s0, s1, i64_w, i32_w];rfl
           refine pure_ (i := 4) (N := some 33) (v := ?_) (a' := ?_) #[tt,tt,tt,tt,tt,ff,ff,ff,ff,ff,ff,ff,ff,ff,ff,ff,ff,ff,ff,ff,ff,ff,ff,ff,ff,ff,ff,ff,ff] rfl rfl (any_of HT_.out (by kernel_rfl)) (fun _ _ _ h => h) (Or.inl ⟨by rfl, ?_⟩) ?_ ?_;rotate_left
           ·intro w';go_simp;with_reducible rfl
           rotate_left;·simp only [Act.put, sB, s0, s1, i64_w, i32_w];rfl
           refine pure_ (i := 6) (N := some 35) (v := ?_) (a' := ?_) #[tt,tt,tt,tt,tt,ff,tt,ff,ff,ff,ff,ff,ff,ff,ff,ff,ff,ff,ff,ff,ff,ff,ff,ff,ff,ff,ff,ff,ff] rfl rfl (any_of HT_.out (by kernel_rfl)) (fun _ _ _ h => h) (Or.inl ⟨by rfl, ?_⟩) ?_ ?_;rotate_left
           ·intro w';go_simp;with_reducible rfl
           rotate_left;·simp only [Act.put, sB, s0, s1, i64_w, i32_w];rfl
           refine take_ (i := 5) (N := some 34) (v := ?_) (a' := ?_) #[tt,tt,tt,tt,tt,tt,tt,ff,ff,ff,ff,ff,ff,ff,ff,ff,ff,ff,ff,ff,ff,ff,ff,ff,ff,ff,ff,ff,ff] rfl rfl (take_ofW HT_.out HW_.out (by kernel_rfl)) (fun _ _ _ h => h) (Or.inl ⟨by rfl, ?_⟩) hHeld ?_ ?_;rotate_left
           ·rintro w' ⟨s0, s1, s2, s3, s4, s5⟩;go_simp;with_reducible rfl
           rotate_left;·simp only [Act.put, sB, s0, s1, i64_w, i32_w];rfl
           refine take_ (i := 7) (N := some 36) (v := ?_) (a' := ?_) #[tt,tt,tt,tt,tt,tt,tt,tt,ff,ff,ff,ff,ff,ff,ff,ff,ff,ff,ff,ff,ff,ff,ff,ff,ff,ff,ff,ff,ff] rfl rfl (take_ofW HT_.out HW_.out (by kernel_rfl)) (fun _ _ _ h => h) (Or.inl ⟨by rfl, ?_⟩) hHeld ?_ ?_;rotate_left
           ·rintro w' ⟨s0, s1, s2, s3, s4, s5⟩;go_simp;with_reducible rfl
           rotate_left;·simp only [Act.put, sB, s0, s1, i64_w, i32_w];rfl
           refine one_ (i := 8) (N := some 37) #[tt,tt,tt,tt,tt,tt,tt,tt,tt,ff,ff,ff,ff,ff,ff,ff,ff,ff,ff,ff,ff,ff,ff,ff,ff,ff,ff,ff,ff] rfl rfl (one_of HT_.out (by kernel_rfl)) (by decide) (fun K hK => ?_);refine goes_ Try.func28 (by kernel_rfl) rfl #[.int .i64 ((rd_T38 l0_1 x3_2).f2), .int .i64 1, .int .i64 a0_0] (by rfl) rfl rfl (by (try simp only [List.map_toArray, List.map_cons, List.map_nil]); first | done | rfl | (simp only [List.length_drop, List.length_take]; rfl)) ?_
           with_reducible refine (spec_l1In.calls ((rd_T38 l0_1 x3_2).f2) 1 a0_0 true _ A18.out).mono ?_
           rintro e w' ⟨rfl, ⟨nd, rfl⟩⟩;refine ⟨_, rfl, ?_⟩;refine hK.out _ _ ⟨(blk_cell BK221.out 0).trans rfl, (blk_cell BK221.out 1).trans rfl, (blk_cell BK221.out 2).trans rfl, (blk_cell BK221.out 3).trans rfl, (blk_cell BK218.out 0).trans rfl, (blk_cell BK218.out 1).trans rfl⟩ (fun hHeld => ?_);clear hK K;refine norm_ (a' := ?_) ?_ ?_;rotate_left
           ·show Act.put _ (some 37) _ = _;simp only [Act.put, sB, s0, s1, i64_w, i32_w];rfl
           refine pure_ (i := 9) (N := some 38) (v := ?_) (a' := ?_) #[tt,tt,tt,tt,tt,tt,tt,tt,tt,tt,ff,ff,ff,ff,ff,ff,ff,ff,ff,ff,ff,ff,ff,ff,ff,ff,ff,ff,ff] rfl rfl (any_of HT_.out (by kernel_rfl)) (fun _ _ _ h => h) (Or.inl ⟨by rfl, ?_⟩) ?_ ?_;rotate_left
           ·intro w';go_simp;with_reducible rfl
           rotate_left;·simp only [Act.put, sB, s0, s1, i64_w, i32_w];rfl
           refine pure_ (i := 10) (N := some 39) (v := ?_) (a' := ?_) #[tt,tt,tt,tt,tt,tt,tt,tt,tt,tt,tt,ff,ff,ff,ff,ff,ff,ff,ff,ff,ff,ff,ff,ff,ff,ff,ff,ff,ff] rfl rfl (any_of HT_.out (by kernel_rfl)) (fun _ _ _ h => h) (Or.inl ⟨by rfl, ?_⟩) ?_ ?_;rotate_left
           ·intro w';go_simp;with_reducible rfl
           rotate_left;·simp only [Act.put, sB, s0, s1, i64_w, i32_w];rfl
           refine pure_ (i := 11) (N := some 40) (v := ?_) (a' := ?_) #[tt,tt,tt,tt,tt,tt,tt,tt,tt,tt,tt,tt,ff,ff,ff,ff,ff,ff,ff,ff,ff,ff,ff,ff,ff,ff,ff,ff,ff] rfl rfl (any_of HT_.out (by kernel_rfl)) (fun _ _ _ h => h) (Or.inl ⟨by rfl, ?_⟩) ?_ ?_;rotate_left
           ·intro w';go_simp;with_reducible rfl
           rotate_left;·simp only [Act.put, sB, s0, s1, i64_w, i32_w];rfl
           refine pure_ (i := 12) (N := some 41) (v := ?_) (a' := ?_) #[tt,tt,tt,tt,tt,tt,tt,tt,tt,tt,tt,tt,tt,ff,ff,ff,ff,ff,ff,ff,ff,ff,ff,ff,ff,ff,ff,ff,ff] rfl rfl (any_of HT_.out (by kernel_rfl)) (fun _ _ _ h => h) (Or.inl ⟨by rfl, ?_⟩) ?_ ?_;rotate_left
           ·intro w';go_simp;with_reducible rfl
           rotate_left;·simp only [Act.put, sB, s0, s1, i64_w, i32_w];rfl
           refine pure_ (i := 13) (N := some 42) (v := ?_) (a' := ?_) #[tt,tt,tt,tt,tt,tt,tt,tt,tt,tt,tt,tt,tt,tt,ff,ff,ff,ff,ff,ff,ff,ff,ff,ff,ff,ff,ff,ff,ff] rfl rfl (any_of HT_.out (by kernel_rfl)) (fun _ _ _ h => h) (Or.inl ⟨by rfl, ?_⟩) ?_ ?_;rotate_left
           ·intro w';go_simp;with_reducible rfl
           rotate_left;·simp only [Act.put, sB, s0, s1, i64_w, i32_w];rfl
           refine pure_ (i := 14) (N := some 43) (v := ?_) (a' := ?_) #[tt,tt,tt,tt,tt,tt,tt,tt,tt,tt,tt,tt,tt,tt,tt,ff,ff,ff,ff,ff,ff,ff,ff,ff,ff,ff,ff,ff,ff] rfl rfl (any_of HT_.out (by kernel_rfl)) (fun _ _ _ h => h) (Or.inl ⟨by rfl, ?_⟩) ?_ ?_;rotate_left
           ·intro w';go_simp;with_reducible rfl
           rotate_left;·simp only [Act.put, sB, s0, s1, i64_w, i32_w];rfl
           refine pure_ (i := 15) (N := some 44) (v := undef) (a' := ?_) #[tt,tt,tt,tt,tt,tt,tt,tt,tt,tt,tt,tt,tt,tt,tt,tt,ff,ff,ff,ff,ff,ff,ff,ff,ff,ff,ff,ff,ff] rfl rfl (any_of HT_.out (by kernel_rfl)) (fun _ _ _ h => h) (Or.inr ⟨by rfl, rfl⟩) ?_ ?_;rotate_left
           ·simp only [Act.put, sB, s0, s1, i64_w, i32_w];rfl
           refine pure_ (i := 16) (N := some 45) (v := undef) (a' := ?_) #[tt,tt,tt,tt,tt,tt,tt,tt,tt,tt,tt,tt,tt,tt,tt,tt,tt,ff,ff,ff,ff,ff,ff,ff,ff,ff,ff,ff,ff] rfl rfl (any_of HT_.out (by kernel_rfl)) (fun _ _ _ h => h) (Or.inr ⟨by rfl, rfl⟩) ?_ ?_;rotate_left
           ·simp only [Act.put, sB, s0, s1, i64_w, i32_w];rfl
           refine pure_ (i := 17) (N := some 46) (v := undef) (a' := ?_) #[tt,tt,tt,tt,tt,tt,tt,tt,tt,tt,tt,tt,tt,tt,tt,tt,tt,tt,ff,ff,ff,ff,ff,ff,ff,ff,ff,ff,ff] rfl rfl (any_of HT_.out (by kernel_rfl)) (fun _ _ _ h => h) (Or.inr ⟨by rfl, rfl⟩) ?_ ?_;rotate_left
           ·simp only [Act.put, sB, s0, s1, i64_w, i32_w];rfl
           refine pure_ (i := 18) (N := some 47) (v := undef) (a' := ?_) #[tt,tt,tt,tt,tt,tt,tt,tt,tt,tt,tt,tt,tt,tt,tt,tt,tt,tt,tt,ff,ff,ff,ff,ff,ff,ff,ff,ff,ff] rfl rfl (any_of HT_.out (by kernel_rfl)) (fun _ _ _ h => h) (Or.inr ⟨by rfl, rfl⟩) ?_ ?_;rotate_left
           ·simp only [Act.put, sB, s0, s1, i64_w, i32_w];rfl
           refine pure_ (i := 19) (N := some 48) (v := undef) (a' := ?_) #[tt,tt,tt,tt,tt,tt,tt,tt,tt,tt,tt,tt,tt,tt,tt,tt,tt,tt,tt,tt,ff,ff,ff,ff,ff,ff,ff,ff,ff] rfl rfl (any_of HT_.out (by kernel_rfl)) (fun _ _ _ h => h) (Or.inr ⟨by rfl, rfl⟩) ?_ ?_;rotate_left
           ·simp only [Act.put, sB, s0, s1, i64_w, i32_w];rfl
           refine pure_ (i := 20) (N := some 49) (v := undef) (a' := ?_) #[tt,tt,tt,tt,tt,tt,tt,tt,tt,tt,tt,tt,tt,tt,tt,tt,tt,tt,tt,tt,tt,ff,ff,ff,ff,ff,ff,ff,ff] rfl rfl (any_of HT_.out (by kernel_rfl)) (fun _ _ _ h => h) (Or.inr ⟨by rfl, rfl⟩) ?_ ?_;rotate_left
           ·simp only [Act.put, sB, s0, s1, i64_w, i32_w];rfl
           refine pure_ (i := 21) (N := some 50) (v := undef) (a' := ?_) #[tt,tt,tt,tt,tt,tt,tt,tt,tt,tt,tt,tt,tt,tt,tt,tt,tt,tt,tt,tt,tt,tt,ff,ff,ff,ff,ff,ff,ff] rfl rfl (any_of HT_.out (by kernel_rfl)) (fun _ _ _ h => h) (Or.inr ⟨by rfl, rfl⟩) ?_ ?_;rotate_left
           ·simp only [Act.put, sB, s0, s1, i64_w, i32_w];rfl
           refine pure_ (i := 22) (N := some 51) (v := undef) (a' := ?_) #[tt,tt,tt,tt,tt,tt,tt,tt,tt,tt,tt,tt,tt,tt,tt,tt,tt,tt,tt,tt,tt,tt,tt,ff,ff,ff,ff,ff,ff] rfl rfl (any_of HT_.out (by kernel_rfl)) (fun _ _ _ h => h) (Or.inr ⟨by rfl, rfl⟩) ?_ ?_;rotate_left
           ·simp only [Act.put, sB, s0, s1, i64_w, i32_w];rfl
           refine pure_ (i := 23) (N := some 52) (v := undef) (a' := ?_) #[tt,tt,tt,tt,tt,tt,tt,tt,tt,tt,tt,tt,tt,tt,tt,tt,tt,tt,tt,tt,tt,tt,tt,tt,ff,ff,ff,ff,ff] rfl rfl (any_of HT_.out (by kernel_rfl)) (fun _ _ _ h => h) (Or.inr ⟨by rfl, rfl⟩) ?_ ?_;rotate_left
           ·simp only [Act.put, sB, s0, s1, i64_w, i32_w];rfl
           refine pure_ (i := 24) (N := some 53) (v := undef) (a' := ?_) #[tt,tt,tt,tt,tt,tt,tt,tt,tt,tt,tt,tt,tt,tt,tt,tt,tt,tt,tt,tt,tt,tt,tt,tt,tt,ff,ff,ff,ff] rfl rfl (any_of HT_.out (by kernel_rfl)) (fun _ _ _ h => h) (Or.inr ⟨by rfl, rfl⟩) ?_ ?_;rotate_left
           ·simp only [Act.put, sB, s0, s1, i64_w, i32_w];rfl
           refine pure_ (i := 25) (N := some 54) (v := undef) (a' := ?_) #[tt,tt,tt,tt,tt,tt,tt,tt,tt,tt,tt,tt,tt,tt,tt,tt,tt,tt,tt,tt,tt,tt,tt,tt,tt,tt,ff,ff,ff] rfl rfl (any_of HT_.out (by kernel_rfl)) (fun _ _ _ h => h) (Or.inr ⟨by rfl, rfl⟩) ?_ ?_;rotate_left
           ·simp only [Act.put, sB, s0, s1, i64_w, i32_w];rfl
           refine pure_ (i := 26) (N := some 55) (v := undef) (a' := ?_) #[tt,tt,tt,tt,tt,tt,tt,tt,tt,tt,tt,tt,tt,tt,tt,tt,tt,tt,tt,tt,tt,tt,tt,tt,tt,tt,tt,ff,ff] rfl rfl (any_of HT_.out (by kernel_rfl)) (fun _ _ _ h => h) (Or.inr ⟨by rfl, rfl⟩) ?_ ?_;rotate_left
           ·simp only [Act.put, sB, s0, s1, i64_w, i32_w];rfl
           refine pure_ (i := 27) (N := some 56) (v := ?_) (a' := ?_) #[tt,tt,tt,tt,tt,tt,tt,tt,tt,tt,tt,tt,tt,tt,tt,tt,tt,tt,tt,tt,tt,tt,tt,tt,tt,tt,tt,tt,ff] rfl rfl (any_of HT_.out (by kernel_rfl)) (fun _ _ _ h => h) (Or.inl ⟨by rfl, ?_⟩) ?_ ?_;rotate_left
           ·intro w';go_simp;with_reducible rfl
           rotate_left;·simp only [Act.put, sB, s0, s1, i64_w, i32_w];rfl
           refine pure_ (i := 28) (N := some 57) (v := ?_) (a' := ?_) #[tt,tt,tt,tt,tt,tt,tt,tt,tt,tt,tt,tt,tt,tt,tt,tt,tt,tt,tt,tt,tt,tt,tt,tt,tt,tt,tt,tt,tt] rfl rfl (any_of HT_.out (by kernel_rfl)) (fun _ _ _ h => h) (Or.inl ⟨by rfl, ?_⟩) ?_ ?_;rotate_left
           ·intro w';go_simp;with_reducible rfl
           rotate_left;·simp only [Act.put, sB, s0, s1, i64_w, i32_w];rfl
           refine done_ (done_of HT_.out (by kernel_rfl)) ?_
           try go_wp2
           go_meet
           case rel => exact ⟨_, (false), (by first | rfl | (simp; done) | (simp [*]; done)), H', ⟨by have := HJ1.out; have := HK2.out; first | omega | exact Nat.le_refl _⟩, ⟨bl BK218.out⟩, ⟨bl BK221.out⟩, ⟨by exact bb HB.out⟩⟩
          replace c19 := Bool.eq_false_iff.mpr c19;subst c19;rw [if_neg (show ¬ (false = true) by decide)] at H;have H' := Aside0.mk H;clear H
          try go_wp2
          obtain ⟨w32, hw_⟩ : ∃ W_, ((((w13.setCell ⟨gb221, 0, none⟩ (.int .i64 ((rd_T38 l0_1 x3_2).f0))).setCell ⟨gb221, 1, none⟩ (.string ((rd_T38 l0_1 x3_2).f1))).setCell ⟨gb221, 2, none⟩ (.int .i64 ((rd_T38 l0_1 x3_2).f2))).setCell ⟨gb221, 3, none⟩ (.string ((rd_T38 l0_1 x3_2).f3))) = W_ := ⟨_, rfl⟩;have hi_ : Lax gb221 w13 w32 := (by rw [← hw_]; infer_instance);have n0_ : Aside0 (w32.heap[gb218]? = some (.cells #[.int .i64 a0_0, .slice (some ad220) l0_1.length c0_1] 25 (0, 0))) := ⟨bx (a := gb221) BK218.out NB218_221.out⟩;have n1_ : Aside0 (w32.heap[gb221]? = some (.cells #[.int .i64 ((rd_T38 l0_1 x3_2).f0), .string ((rd_T38 l0_1 x3_2).f1), .int .i64 ((rd_T38 l0_1 x3_2).f2), .string ((rd_T38 l0_1 x3_2).f3)] 38 (0, 0))) := ⟨by rw [← hw_]; exact (bp BK221.out (by rfl))⟩;have n2_ : Aside0 (Below w.heap.size w w32) := ⟨by exact bbx (a := gb221) HB.out GE221.out⟩
          (try clear BK218)
          (try clear BK221)
          (try clear HB)
          clear hi_
          (try rw [hw_])
          clear hw_;have BK218 := n0_;have BK221 := n1_;have HB := n2_;clear n0_ n1_ n2_;replace BK218 := Aside0.mk (blk_drew BK218.out);replace BK221 := Aside0.mk (blk_drew BK221.out);replace HB := Aside0.mk (below_drew1 HB.out);refine start_ (n := 29) (S := fun w' => w'.cell? ⟨gb221, 0, none⟩ = some (.int .i64 ((rd_T38 l0_1 x3_2).f0)) ∧ w'.cell? ⟨gb221, 1, none⟩ = some (.string ((rd_T38 l0_1 x3_2).f1)) ∧ w'.cell? ⟨gb221, 2, none⟩ = some (.int .i64 ((rd_T38 l0_1 x3_2).f2)) ∧ w'.cell? ⟨gb221, 3, none⟩ = some (.string ((rd_T38 l0_1 x3_2).f3)) ∧ w'.cell? ⟨gb218, 0, none⟩ = some (.int .i64 a0_0) ∧ w'.cell? ⟨gb218, 1, none⟩ = some (.slice (some ad220) l0_1.length c0_1)) (ds := []) #[ff,ff,ff,ff,ff,ff,ff,ff,ff,ff,ff,ff,ff,ff,ff,ff,ff,ff,ff,ff,ff,ff,ff,ff,ff,ff,ff,ff,ff] (by kernel_rfl) rfl rfl ⟨(blk_cell BK221.out 0).trans rfl, (blk_cell BK221.out 1).trans rfl, (blk_cell BK221.out 2).trans rfl, (blk_cell BK221.out 3).trans rfl, (blk_cell BK218.out 0).trans rfl, (blk_cell BK218.out 1).trans rfl⟩ (fun hHeld => ?_); refine with_tabW spec_CatOk.tab7 spec_CatOk.bits7 (fun HT_ HW_ => ?_)
          generalize w32.drew = w33 at BK218 BK221 HB hHeld ⊢;refine take_ (i := 0) (N := some 29) (v := ?_) (a' := ?_) #[tt,ff,ff,ff,ff,ff,ff,ff,ff,ff,ff,ff,ff,ff,ff,ff,ff,ff,ff,ff,ff,ff,ff,ff,ff,ff,ff,ff,ff] rfl rfl (take_ofW HT_.out HW_.out (by kernel_rfl)) (fun _ _ _ h => h) (Or.inl ⟨by rfl, ?_⟩) hHeld ?_ ?_;rotate_left
          ·rintro w' ⟨s0, s1, s2, s3, s4, s5⟩;go_simp;with_reducible rfl
          rotate_left;·simp only [Act.put, sB, s0, s1, i64_w, i32_w];rfl
          refine one_ (i := 1) (N := some 30) #[tt,tt,ff,ff,ff,ff,ff,ff,ff,ff,ff,ff,ff,ff,ff,ff,ff,ff,ff,ff,ff,ff,ff,ff,ff,ff,ff,ff,ff] rfl rfl (one_of HT_.out (by kernel_rfl)) (by decide) (fun K hK => ?_);refine goes_ Try.func23 (by kernel_rfl) rfl #[.agg #[.int .i64 ((rd_T38 l0_1 x3_2).f0), .string ((rd_T38 l0_1 x3_2).f1), .int .i64 ((rd_T38 l0_1 x3_2).f2), .string ((rd_T38 l0_1 x3_2).f3)]] (by rfl) rfl rfl (by (try simp only [List.map_toArray, List.map_cons, List.map_nil]); first | done | rfl | (simp only [List.length_drop, List.length_take]; rfl)) ?_
          with_reducible refine (spec_l9Ok.calls k2 ((rd_T38 l0_1 x3_2).f0) ((rd_T38 l0_1 x3_2).f1) ((rd_T38 l0_1 x3_2).f2) ((rd_T38 l0_1 x3_2).f3) true _ A16.out).mono ?_
          rintro e w34 ⟨rfl, hb⟩;refine ⟨_, rfl, ?_⟩;replace BK218 := kb BK218 hb;replace BK221 := kb BK221 hb;replace HB := hbb HB hb
          (try clear hb)
          (try clear hb2)
          (try clear hk)
          (try clear hi)
          refine hK.out _ _ ⟨(blk_cell BK221.out 0).trans rfl, (blk_cell BK221.out 1).trans rfl, (blk_cell BK221.out 2).trans rfl, (blk_cell BK221.out 3).trans rfl, (blk_cell BK218.out 0).trans rfl, (blk_cell BK218.out 1).trans rfl⟩ (fun hHeld => ?_);clear hK K;refine norm_ (a' := ?_) ?_ ?_;rotate_left
          ·show Act.put _ (some 30) _ = _;simp only [Act.put, sB, s0, s1, i64_w, i32_w];rfl
          refine pure_ (i := 2) (N := some 31) (v := ?_) (a' := ?_) #[tt,tt,tt,ff,ff,ff,ff,ff,ff,ff,ff,ff,ff,ff,ff,ff,ff,ff,ff,ff,ff,ff,ff,ff,ff,ff,ff,ff,ff] rfl rfl (any_of HT_.out (by kernel_rfl)) (fun _ _ _ h => h) (Or.inl ⟨by rfl, ?_⟩) ?_ ?_;rotate_left
          ·intro w';go_simp;with_reducible rfl
          rotate_left;·simp only [Act.put, sB, s0, s1, i64_w, i32_w];rfl
          refine pure_ (i := 3) (N := some 32) (v := ?_) (a' := ?_) #[tt,tt,tt,tt,ff,ff,ff,ff,ff,ff,ff,ff,ff,ff,ff,ff,ff,ff,ff,ff,ff,ff,ff,ff,ff,ff,ff,ff,ff] rfl rfl (any_of HT_.out (by kernel_rfl)) (fun _ _ _ h => h) (Or.inl ⟨by rfl, ?_⟩) ?_ ?_;rotate_left
          ·intro w';go_simp;with_reducible rfl
          rotate_left;·simp only [Act.put, sB, s0, s1, i64_w, i32_w];rfl
          refine pure_ (i := 4) (N := some 33) (v := ?_) (a' := ?_) #[tt,tt,tt,tt,tt,ff,ff,ff,ff,ff,ff,ff,ff,ff,ff,ff,ff,ff,ff,ff,ff,ff,ff,ff,ff,ff,ff,ff,ff] rfl rfl (any_of HT_.out (by kernel_rfl)) (fun _ _ _ h => h) (Or.inl ⟨by rfl, ?_⟩) ?_ ?_;rotate_left
          ·intro w';go_simp;with_reducible rfl
          rotate_left;·simp only [Act.put, sB, s0, s1, i64_w, i32_w];rfl
          refine pure_ (i := 6) (N := some 35) (v := ?_) (a' := ?_) #[tt,tt,tt,tt,tt,ff,tt,ff,ff,ff,ff,ff,ff,ff,ff,ff,ff,ff,ff,ff,ff,ff,ff,ff,ff,ff,ff,ff,ff] rfl rfl (any_of HT_.out (by kernel_rfl)) (fun _ _ _ h => h) (Or.inl ⟨by rfl, ?_⟩) ?_ ?_;rotate_left
          ·intro w';go_simp;with_reducible rfl
          rotate_left;·simp only [Act.put, sB, s0, s1, i64_w, i32_w];rfl
          refine take_ (i := 5) (N := some 34) (v := ?_) (a' := ?_) #[tt,tt,tt,tt,tt,tt,tt,ff,ff,ff,ff,ff,ff,ff,ff,ff,ff,ff,ff,ff,ff,ff,ff,ff,ff,ff,ff,ff,ff] rfl rfl (take_ofW HT_.out HW_.out (by kernel_rfl)) (fun _ _ _ h => h) (Or.inl ⟨by rfl, ?_⟩) hHeld ?_ ?_;rotate_left
          ·rintro w' ⟨s0, s1, s2, s3, s4, s5⟩;go_simp;with_reducible rfl
          rotate_left;·simp only [Act.put, sB, s0, s1, i64_w, i32_w];rfl
          refine take_ (i := 7) (N := some 36) (v := ?_) (a' := ?_) #[tt,tt,tt,tt,tt,tt,tt,tt,ff,ff,ff,ff,ff,ff,ff,ff,ff,ff,ff,ff,ff,ff,ff,ff,ff,ff,ff,ff,ff] rfl rfl (take_ofW HT_.out HW_.out (by kernel_rfl)) (fun _ _ _ h => h) (Or.inl ⟨by rfl, ?_⟩) hHeld ?_ ?_;rotate_left
          ·rintro w' ⟨s0, s1, s2, s3, s4, s5⟩;go_simp;with_reducible rfl
          rotate_left;·simp only [Act.put, sB, s0, s1, i64_w, i32_w];rfl
          refine one_ (i := 8) (N := some 37) #[tt,tt,tt,tt,tt,tt,tt,tt,tt,ff,ff,ff,ff,ff,ff,ff,ff,ff,ff,ff,ff,ff,ff,ff,ff,ff,ff,ff,ff] rfl rfl (one_of HT_.out (by kernel_rfl)) (by decide) (fun K hK => ?_);refine goes_ Try.func28 (by kernel_rfl) rfl #[.int .i64 ((rd_T38 l0_1 x3_2).f2), .int .i64 1, .int .i64 a0_0] (by rfl) rfl rfl (by (try simp only [List.map_toArray, List.map_cons, List.map_nil]); first | done | rfl | (simp only [List.length_drop, List.length_take]; rfl)) ?_
          with_reducible refine (spec_l1In.calls ((rd_T38 l0_1 x3_2).f2) 1 a0_0 false _ A18.out).mono ?_
          rintro e w' ⟨rfl, ⟨nd, rfl⟩⟩;refine ⟨_, rfl, ?_⟩;refine hK.out _ _ ⟨(blk_cell BK221.out 0).trans rfl, (blk_cell BK221.out 1).trans rfl, (blk_cell BK221.out 2).trans rfl, (blk_cell BK221.out 3).trans rfl, (blk_cell BK218.out 0).trans rfl, (blk_cell BK218.out 1).trans rfl⟩ (fun hHeld => ?_);clear hK K;refine norm_ (a' := ?_) ?_ ?_;rotate_left
          ·show Act.put _ (some 37) _ = _;simp only [Act.put, sB, s0, s1, i64_w, i32_w];rfl
          refine pure_ (i := 9) (N := some 38) (v := ?_) (a' := ?_) #[tt,tt,tt,tt,tt,tt,tt,tt,tt,tt,ff,ff,ff,ff,ff,ff,ff,ff,ff,ff,ff,ff,ff,ff,ff,ff,ff,ff,ff] rfl rfl (any_of HT_.out (by kernel_rfl)) (fun _ _ _ h => h) (Or.inl ⟨by rfl, ?_⟩) ?_ ?_;rotate_left
          ·intro w';go_simp;with_reducible rfl
          rotate_left;·simp only [Act.put, sB, s0, s1, i64_w, i32_w];rfl
          refine pure_ (i := 10) (N := some 39) (v := ?_) (a' := ?_) #[tt,tt,tt,tt,tt,tt,tt,tt,tt,tt,tt,ff,ff,ff,ff,ff,ff,ff,ff,ff,ff,ff,ff,ff,ff,ff,ff,ff,ff] rfl rfl (any_of HT_.out (by kernel_rfl)) (fun _ _ _ h => h) (Or.inl ⟨by rfl, ?_⟩) ?_ ?_;rotate_left
          ·intro w';go_simp;with_reducible rfl
          rotate_left;·simp only [Act.put, sB, s0, s1, i64_w, i32_w];rfl
          refine pure_ (i := 11) (N := some 40) (v := ?_) (a' := ?_) #[tt,tt,tt,tt,tt,tt,tt,tt,tt,tt,tt,tt,ff,ff,ff,ff,ff,ff,ff,ff,ff,ff,ff,ff,ff,ff,ff,ff,ff] rfl rfl (any_of HT_.out (by kernel_rfl)) (fun _ _ _ h => h) (Or.inl ⟨by rfl, ?_⟩) ?_ ?_;rotate_left
          ·intro w';go_simp;with_reducible rfl
          rotate_left;·simp only [Act.put, sB, s0, s1, i64_w, i32_w];rfl
          refine pure_ (i := 12) (N := some 41) (v := undef) (a' := ?_) #[tt,tt,tt,tt,tt,tt,tt,tt,tt,tt,tt,tt,tt,ff,ff,ff,ff,ff,ff,ff,ff,ff,ff,ff,ff,ff,ff,ff,ff] rfl rfl (any_of HT_.out (by kernel_rfl)) (fun _ _ _ h => h) (Or.inr ⟨by rfl, rfl⟩) ?_ ?_;rotate_left
          ·simp only [Act.put, sB, s0, s1, i64_w, i32_w];rfl
          refine pure_ (i := 13) (N := some 42) (v := undef) (a' := ?_) #[tt,tt,tt,tt,tt,tt,tt,tt,tt,tt,tt,tt,tt,tt,ff,ff,ff,ff,ff,ff,ff,ff,ff,ff,ff,ff,ff,ff,ff] rfl rfl (any_of HT_.out (by kernel_rfl)) (fun _ _ _ h => h) (Or.inr ⟨by rfl, rfl⟩) ?_ ?_;rotate_left
          ·simp only [Act.put, sB, s0, s1, i64_w, i32_w];rfl
          refine pure_ (i := 14) (N := some 43) (v := undef) (a' := ?_) #[tt,tt,tt,tt,tt,tt,tt,tt,tt,tt,tt,tt,tt,tt,tt,ff,ff,ff,ff,ff,ff,ff,ff,ff,ff,ff,ff,ff,ff] rfl rfl (any_of HT_.out (by kernel_rfl)) (fun _ _ _ h => h) (Or.inr ⟨by rfl, rfl⟩) ?_ ?_;rotate_left
          ·simp only [Act.put, sB, s0, s1, i64_w, i32_w];rfl
          refine pure_ (i := 15) (N := some 44) (v := undef) (a' := ?_) #[tt,tt,tt,tt,tt,tt,tt,tt,tt,tt,tt,tt,tt,tt,tt,tt,ff,ff,ff,ff,ff,ff,ff,ff,ff,ff,ff,ff,ff] rfl rfl (any_of HT_.out (by kernel_rfl)) (fun _ _ _ h => h) (Or.inr ⟨by rfl, rfl⟩) ?_ ?_;rotate_left
          ·simp only [Act.put, sB, s0, s1, i64_w, i32_w];rfl
          refine pure_ (i := 16) (N := some 45) (v := undef) (a' := ?_) #[tt,tt,tt,tt,tt,tt,tt,tt,tt,tt,tt,tt,tt,tt,tt,tt,tt,ff,ff,ff,ff,ff,ff,ff,ff,ff,ff,ff,ff] rfl rfl (any_of HT_.out (by kernel_rfl)) (fun _ _ _ h => h) (Or.inr ⟨by rfl, rfl⟩) ?_ ?_;rotate_left
          ·simp only [Act.put, sB, s0, s1, i64_w, i32_w];rfl
          refine pure_ (i := 17) (N := some 46) (v := undef) (a' := ?_) #[tt,tt,tt,tt,tt,tt,tt,tt,tt,tt,tt,tt,tt,tt,tt,tt,tt,tt,ff,ff,ff,ff,ff,ff,ff,ff,ff,ff,ff] rfl rfl (any_of HT_.out (by kernel_rfl)) (fun _ _ _ h => h) (Or.inr ⟨by rfl, rfl⟩) ?_ ?_;rotate_left
          ·simp only [Act.put, sB, s0, s1, i64_w, i32_w];rfl
          refine pure_ (i := 18) (N := some 47) (v := undef) (a' := ?_) #[tt,tt,tt,tt,tt,tt,tt,tt,tt,tt,tt,tt,tt,tt,tt,tt,tt,tt,tt,ff,ff,ff,ff,ff,ff,ff,ff,ff,ff] rfl rfl (any_of HT_.out (by kernel_rfl)) (fun _ _ _ h => h) (Or.inr ⟨by rfl, rfl⟩) ?_ ?_;rotate_left
          ·simp only [Act.put, sB, s0, s1, i64_w, i32_w];rfl
          refine pure_ (i := 19) (N := some 48) (v := undef) (a' := ?_) #[tt,tt,tt,tt,tt,tt,tt,tt,tt,tt,tt,tt,tt,tt,tt,tt,tt,tt,tt,tt,ff,ff,ff,ff,ff,ff,ff,ff,ff] rfl rfl (any_of HT_.out (by kernel_rfl)) (fun _ _ _ h => h) (Or.inr ⟨by rfl, rfl⟩) ?_ ?_;rotate_left
          ·simp only [Act.put, sB, s0, s1, i64_w, i32_w];rfl
          refine pure_ (i := 20) (N := some 49) (v := undef) (a' := ?_) #[tt,tt,tt,tt,tt,tt,tt,tt,tt,tt,tt,tt,tt,tt,tt,tt,tt,tt,tt,tt,tt,ff,ff,ff,ff,ff,ff,ff,ff] rfl rfl (any_of HT_.out (by kernel_rfl)) (fun _ _ _ h => h) (Or.inr ⟨by rfl, rfl⟩) ?_ ?_;rotate_left
          ·simp only [Act.put, sB, s0, s1, i64_w, i32_w];rfl
          refine pure_ (i := 21) (N := some 50) (v := undef) (a' := ?_) #[tt,tt,tt,tt,tt,tt,tt,tt,tt,tt,tt,tt,tt,tt,tt,tt,tt,tt,tt,tt,tt,tt,ff,ff,ff,ff,ff,ff,ff] rfl rfl (any_of HT_.out (by kernel_rfl)) (fun _ _ _ h => h) (Or.inr ⟨by rfl, rfl⟩) ?_ ?_;rotate_left
          ·simp only [Act.put, sB, s0, s1, i64_w, i32_w];rfl
          refine pure_ (i := 22) (N := some 51) (v := undef) (a' := ?_) #[tt,tt,tt,tt,tt,tt,tt,tt,tt,tt,tt,tt,tt,tt,tt,tt,tt,tt,tt,tt,tt,tt,tt,ff,ff,ff,ff,ff,ff] rfl rfl (any_of HT_.out (by kernel_rfl)) (fun _ _ _ h => h) (Or.inr ⟨by rfl, rfl⟩) ?_ ?_;rotate_left
          ·simp only [Act.put, sB, s0, s1, i64_w, i32_w];rfl
          refine pure_ (i := 23) (N := some 52) (v := undef) (a' := ?_) #[tt,tt,tt,tt,tt,tt,tt,tt,tt,tt,tt,tt,tt,tt,tt,tt,tt,tt,tt,tt,tt,tt,tt,tt,ff,ff,ff,ff,ff] rfl rfl (any_of HT_.out (by kernel_rfl)) (fun _ _ _ h => h) (Or.inr ⟨by rfl, rfl⟩) ?_ ?_;rotate_left
          ·simp only [Act.put, sB, s0, s1, i64_w, i32_w];rfl
          refine pure_ (i := 24) (N := some 53) (v := undef) (a' := ?_) #[tt,tt,tt,tt,tt,tt,tt,tt,tt,tt,tt,tt,tt,tt,tt,tt,tt,tt,tt,tt,tt,tt,tt,tt,tt,ff,ff,ff,ff] rfl rfl (any_of HT_.out (by kernel_rfl)) (fun _ _ _ h => h) (Or.inr ⟨by rfl, rfl⟩) ?_ ?_;rotate_left
          ·simp only [Act.put, sB, s0, s1, i64_w, i32_w];rfl
          refine pure_ (i := 25) (N := some 54) (v := undef) (a' := ?_) #[tt,tt,tt,tt,tt,tt,tt,tt,tt,tt,tt,tt,tt,tt,tt,tt,tt,tt,tt,tt,tt,tt,tt,tt,tt,tt,ff,ff,ff] rfl rfl (any_of HT_.out (by kernel_rfl)) (fun _ _ _ h => h) (Or.inr ⟨by rfl, rfl⟩) ?_ ?_;rotate_left
          ·simp only [Act.put, sB, s0, s1, i64_w, i32_w];rfl
          refine pure_ (i := 26) (N := some 55) (v := undef) (a' := ?_) #[tt,tt,tt,tt,tt,tt,tt,tt,tt,tt,tt,tt,tt,tt,tt,tt,tt,tt,tt,tt,tt,tt,tt,tt,tt,tt,tt,ff,ff] rfl rfl (any_of HT_.out (by kernel_rfl)) (fun _ _ _ h => h) (Or.inr ⟨by rfl, rfl⟩) ?_ ?_;rotate_left
          ·simp only [Act.put, sB, s0, s1, i64_w, i32_w];rfl
          refine pure_ (i := 27) (N := some 56) (v := undef) (a' := ?_) #[tt,tt,tt,tt,tt,tt,tt,tt,tt,tt,tt,tt,tt,tt,tt,tt,tt,tt,tt,tt,tt,tt,tt,tt,tt,tt,tt,tt,ff] rfl rfl (any_of HT_.out (by kernel_rfl)) (fun _ _ _ h => h) (Or.inr ⟨by rfl, rfl⟩) ?_ ?_;rotate_left
          ·simp only [Act.put, sB, s0, s1, i64_w, i32_w];rfl
          refine pure_ (i := 28) (N := some 57) (v := ?_) (a' := ?_) #[tt,tt,tt,tt,tt,tt,tt,tt,tt,tt,tt,tt,tt,tt,tt,tt,tt,tt,tt,tt,tt,tt,tt,tt,tt,tt,tt,tt,tt] rfl rfl (any_of HT_.out (by kernel_rfl)) (fun _ _ _ h => h) (Or.inl ⟨by rfl, ?_⟩) ?_ ?_;rotate_left
          ·intro w';go_simp;with_reducible rfl
          rotate_left;·simp only [Act.put, sB, s0, s1, i64_w, i32_w];rfl
          refine done_ (done_of HT_.out (by kernel_rfl)) ?_
          try go_wp2
          go_meet
          case rel => exact ⟨_, (true), (by first | rfl | (simp; done) | (simp [*]; done)), H', ⟨by have := HJ1.out; have := HK2.out; first | omega | exact Nat.le_refl _⟩, ⟨bl BK218.out⟩, ⟨bl BK221.out⟩, ⟨by exact bb HB.out⟩⟩
         replace c17 := Bool.eq_false_iff.mpr c17;subst c17;rw [if_neg (show ¬ (false = true) by decide)] at H;have H' := Aside0.mk H;clear H
         try go_wp2
         obtain ⟨w35, hw_⟩ : ∃ W_, ((((w13.setCell ⟨gb221, 0, none⟩ (.int .i64 ((rd_T38 l0_1 x3_2).f0))).setCell ⟨gb221, 1, none⟩ (.string ((rd_T38 l0_1 x3_2).f1))).setCell ⟨gb221, 2, none⟩ (.int .i64 ((rd_T38 l0_1 x3_2).f2))).setCell ⟨gb221, 3, none⟩ (.string ((rd_T38 l0_1 x3_2).f3))) = W_ := ⟨_, rfl⟩;have hi_ : Lax gb221 w13 w35 := (by rw [← hw_]; infer_instance);have n0_ : Aside0 (w35.heap[gb218]? = some (.cells #[.int .i64 a0_0, .slice (some ad220) l0_1.length c0_1] 25 (0, 0))) := ⟨bx (a := gb221) BK218.out NB218_221.out⟩;have n1_ : Aside0 (w35.heap[gb221]? = some (.cells #[.int .i64 ((rd_T38 l0_1 x3_2).f0), .string ((rd_T38 l0_1 x3_2).f1), .int .i64 ((rd_T38 l0_1 x3_2).f2), .string ((rd_T38 l0_1 x3_2).f3)] 38 (0, 0))) := ⟨by rw [← hw_]; exact (bp BK221.out (by rfl))⟩;have n2_ : Aside0 (Below w.heap.size w w35) := ⟨by exact bbx (a := gb221) HB.out GE221.out⟩
         (try clear BK218)
         (try clear BK221)
         (try clear HB)
         clear hi_
         (try rw [hw_])
         clear hw_;have BK218 := n0_;have BK221 := n1_;have HB := n2_;clear n0_ n1_ n2_;replace BK218 := Aside0.mk (blk_drew BK218.out);replace BK221 := Aside0.mk (blk_drew BK221.out);replace HB := Aside0.mk (below_drew1 HB.out);refine start_ (n := 29) (S := fun w' => w'.cell? ⟨gb221, 0, none⟩ = some (.int .i64 ((rd_T38 l0_1 x3_2).f0)) ∧ w'.cell? ⟨gb221, 1, none⟩ = some (.string ((rd_T38 l0_1 x3_2).f1)) ∧ w'.cell? ⟨gb221, 2, none⟩ = some (.int .i64 ((rd_T38 l0_1 x3_2).f2)) ∧ w'.cell? ⟨gb221, 3, none⟩ = some (.string ((rd_T38 l0_1 x3_2).f3))) (ds := []) #[ff,ff,ff,ff,ff,ff,ff,ff,ff,ff,ff,ff,ff,ff,ff,ff,ff,ff,ff,ff,ff,ff,ff,ff,ff,ff,ff,ff,ff] (by kernel_rfl) rfl rfl ⟨(blk_cell BK221.out 0).trans rfl, (blk_cell BK221.out 1).trans rfl, (blk_cell BK221.out 2).trans rfl, (blk_cell BK221.out 3).trans rfl⟩ (fun hHeld => ?_); refine with_tabW spec_CatOk.tab7 spec_CatOk.bits7 (fun HT_ HW_ => ?_)
         generalize w35.drew = w36 at BK218 BK221 HB hHeld ⊢;refine take_ (i := 0) (N := some 29) (v := ?_) (a' := ?_) #[tt,ff,ff,ff,ff,ff,ff,ff,ff,ff,ff,ff,ff,ff,ff,ff,ff,ff,ff,ff,ff,ff,ff,ff,ff,ff,ff,ff,ff] rfl rfl (take_ofW HT_.out HW_.out (by kernel_rfl)) (fun _ _ _ h => h) (Or.inl ⟨by rfl, ?_⟩) hHeld ?_ ?_;rotate_left
         ·rintro w' ⟨s0, s1, s2, s3⟩;go_simp;with_reducible rfl
         rotate_left;·simp only [Act.put, sB, s0, s1, i64_w, i32_w];rfl
         refine one_ (i := 1) (N := some 30) #[tt,tt,ff,ff,ff,ff,ff,ff,ff,ff,ff,ff,ff,ff,ff,ff,ff,ff,ff,ff,ff,ff,ff,ff,ff,ff,ff,ff,ff] rfl rfl (one_of HT_.out (by kernel_rfl)) (by decide) (fun K hK => ?_);refine goes_ Try.func23 (by kernel_rfl) rfl #[.agg #[.int .i64 ((rd_T38 l0_1 x3_2).f0), .string ((rd_T38 l0_1 x3_2).f1), .int .i64 ((rd_T38 l0_1 x3_2).f2), .string ((rd_T38 l0_1 x3_2).f3)]] (by rfl) rfl rfl (by (try simp only [List.map_toArray, List.map_cons, List.map_nil]); first | done | rfl | (simp only [List.length_drop, List.length_take]; rfl)) ?_
         with_reducible refine (spec_l9Ok.calls k2 ((rd_T38 l0_1 x3_2).f0) ((rd_T38 l0_1 x3_2).f1) ((rd_T38 l0_1 x3_2).f2) ((rd_T38 l0_1 x3_2).f3) false _ A16.out).mono ?_
         rintro e w37 ⟨rfl, hb⟩;refine ⟨_, rfl, ?_⟩;replace BK218 := kb BK218 hb;replace BK221 := kb BK221 hb;replace HB := hbb HB hb
         (try clear hb)
         (try clear hb2)
         (try clear hk)
         (try clear hi)
         refine hK.out _ _ ⟨(blk_cell BK221.out 0).trans rfl, (blk_cell BK221.out 1).trans rfl, (blk_cell BK221.out 2).trans rfl, (blk_cell BK221.out 3).trans rfl⟩ (fun hHeld => ?_);clear hK K;refine norm_ (a' := ?_) ?_ ?_;rotate_left
         ·show Act.put _ (some 30) _ = _;simp only [Act.put, sB, s0, s1, i64_w, i32_w];rfl
         refine pure_ (i := 2) (N := some 31) (v := ?_) (a' := ?_) #[tt,tt,tt,ff,ff,ff,ff,ff,ff,ff,ff,ff,ff,ff,ff,ff,ff,ff,ff,ff,ff,ff,ff,ff,ff,ff,ff,ff,ff] rfl rfl (any_of HT_.out (by kernel_rfl)) (fun _ _ _ h => h) (Or.inl ⟨by rfl, ?_⟩) ?_ ?_;rotate_left
         ·intro w';go_simp;with_reducible rfl
         rotate_left;·simp only [Act.put, sB, s0, s1, i64_w, i32_w];rfl
         refine pure_ (i := 3) (N := some 32) (v := ?_) (a' := ?_) #[tt,tt,tt,tt,ff,ff,ff,ff,ff,ff,ff,ff,ff,ff,ff,ff,ff,ff,ff,ff,ff,ff,ff,ff,ff,ff,ff,ff,ff] rfl rfl (any_of HT_.out (by kernel_rfl)) (fun _ _ _ h => h) (Or.inl ⟨by rfl, ?_⟩) ?_ ?_;rotate_left
         ·intro w';go_simp;with_reducible rfl
         rotate_left;·simp only [Act.put, sB, s0, s1, i64_w, i32_w];rfl
         refine pure_ (i := 4) (N := some 33) (v := undef) (a' := ?_) #[tt,tt,tt,tt,tt,ff,ff,ff,ff,ff,ff,ff,ff,ff,ff,ff,ff,ff,ff,ff,ff,ff,ff,ff,ff,ff,ff,ff,ff] rfl rfl (any_of HT_.out (by kernel_rfl)) (fun _ _ _ h => h) (Or.inr ⟨by rfl, rfl⟩) ?_ ?_;rotate_left
         ·simp only [Act.put, sB, s0, s1, i64_w, i32_w];rfl
         refine pure_ (i := 5) (N := some 34) (v := undef) (a' := ?_) #[tt,tt,tt,tt,tt,tt,ff,ff,ff,ff,ff,ff,ff,ff,ff,ff,ff,ff,ff,ff,ff,ff,ff,ff,ff,ff,ff,ff,ff] rfl rfl (any_of HT_.out (by kernel_rfl)) (fun _ _ _ h => h) (Or.inr ⟨by rfl, rfl⟩) ?_ ?_;rotate_left
         ·simp only [Act.put, sB, s0, s1, i64_w, i32_w];rfl
         refine pure_ (i := 6) (N := some 35) (v := undef) (a' := ?_) #[tt,tt,tt,tt,tt,tt,tt,ff,ff,ff,ff,ff,ff,ff,ff,ff,ff,ff,ff,ff,ff,ff,ff,ff,ff,ff,ff,ff,ff] rfl rfl (any_of HT_.out (by kernel_rfl)) (fun _ _ _ h => h) (Or.inr ⟨by rfl, rfl⟩) ?_ ?_;rotate_left
         ·simp only [Act.put, sB, s0, s1, i64_w, i32_w];rfl
         refine pure_ (i := 7) (N := some 36) (v := undef) (a' := ?_) #[tt,tt,tt,tt,tt,tt,tt,tt,ff,ff,ff,ff,ff,ff,ff,ff,ff,ff,ff,ff,ff,ff,ff,ff,ff,ff,ff,ff,ff] rfl rfl (any_of HT_.out (by kernel_rfl)) (fun _ _ _ h => h) (Or.inr ⟨by rfl, rfl⟩) ?_ ?_;rotate_left
         ·simp only [Act.put, sB, s0, s1, i64_w, i32_w];rfl
         refine pure_ (i := 8) (N := some 37) (v := undef) (a' := ?_) #[tt,tt,tt,tt,tt,tt,tt,tt,tt,ff,ff,ff,ff,ff,ff,ff,ff,ff,ff,ff,ff,ff,ff,ff,ff,ff,ff,ff,ff] rfl rfl (any_of HT_.out (by kernel_rfl)) (fun _ _ _ h => h) (Or.inr ⟨by rfl, rfl⟩) ?_ ?_;rotate_left
         ·simp only [Act.put, sB, s0, s1, i64_w, i32_w];rfl
         refine pure_ (i := 9) (N := some 38) (v := undef) (a' := ?_) #[tt,tt,tt,tt,tt,tt,tt,tt,tt,tt,ff,ff,ff,ff,ff,ff,ff,ff,ff,ff,ff,ff,ff,ff,ff,ff,ff,ff,ff] rfl rfl (any_of HT_.out (by kernel_rfl)) (fun _ _ _ h => h) (Or.inr ⟨by rfl, rfl⟩) ?_ ?_;rotate_left
         ·simp only [Act.put, sB, s0, s1, i64_w, i32_w];rfl
         refine pure_ (i := 10) (N := some 39) (v := ?_) (a' := ?_) #[tt,tt,tt,tt,tt,tt,tt,tt,tt,tt,tt,ff,ff,ff,ff,ff,ff,ff,ff,ff,ff,ff,ff,ff,ff,ff,ff,ff,ff] rfl rfl (any_of HT_.out (by kernel_rfl)) (fun _ _ _ h => h) (Or.inl ⟨by rfl, ?_⟩) ?_ ?_;rotate_left
         ·intro w';go_simp;with_reducible rfl
         rotate_left;·simp only [Act.put, sB, s0, s1, i64_w, i32_w];rfl
         refine pure_ (i := 11) (N := some 40) (v := ?_) (a' := ?_) #[tt,tt,tt,tt,tt,tt,tt,tt,tt,tt,tt,tt,ff,ff,ff,ff,ff,ff,ff,ff,ff,ff,ff,ff,ff,ff,ff,ff,ff] rfl rfl (any_of HT_.out (by kernel_rfl)) (fun _ _ _ h => h) (Or.inl ⟨by rfl, ?_⟩) ?_ ?_;rotate_left
         ·intro w';go_simp;with_reducible rfl
         rotate_left;·simp only [Act.put, sB, s0, s1, i64_w, i32_w];rfl
         refine pure_ (i := 12) (N := some 41) (v := undef) (a' := ?_) #[tt,tt,tt,tt,tt,tt,tt,tt,tt,tt,tt,tt,tt,ff,ff,ff,ff,ff,ff,ff,ff,ff,ff,ff,ff,ff,ff,ff,ff] rfl rfl (any_of HT_.out (by kernel_rfl)) (fun _ _ _ h => h) (Or.inr ⟨by rfl, rfl⟩) ?_ ?_;rotate_left
         ·simp only [Act.put, sB, s0, s1, i64_w, i32_w];rfl
         refine pure_ (i := 13) (N := some 42) (v := undef) (a' := ?_) #[tt,tt,tt,tt,tt,tt,tt,tt,tt,tt,tt,tt,tt,tt,ff,ff,ff,ff,ff,ff,ff,ff,ff,ff,ff,ff,ff,ff,ff] rfl rfl (any_of HT_.out (by kernel_rfl)) (fun _ _ _ h => h) (Or.inr ⟨by rfl, rfl⟩) ?_ ?_;rotate_left
         ·simp only [Act.put, sB, s0, s1, i64_w, i32_w];rfl
         refine pure_ (i := 14) (N := some 43) (v := undef) (a' := ?_) #[tt,tt,tt,tt,tt,tt,tt,tt,tt,tt,tt,tt,tt,tt,tt,ff,ff,ff,ff,ff,ff,ff,ff,ff,ff,ff,ff,ff,ff] rfl rfl (any_of HT_.out (by kernel_rfl)) (fun _ _ _ h => h) (Or.inr ⟨by rfl, rfl⟩) ?_ ?_;rotate_left
         ·simp only [Act.put, sB, s0, s1, i64_w, i32_w];rfl
         refine pure_ (i := 15) (N := some 44) (v := undef) (a' := ?_) #[tt,tt,tt,tt,tt,tt,tt,tt,tt,tt,tt,tt,tt,tt,tt,tt,ff,ff,ff,ff,ff,ff,ff,ff,ff,ff,ff,ff,ff] rfl rfl (any_of HT_.out (by kernel_rfl)) (fun _ _ _ h => h) (Or.inr ⟨by rfl, rfl⟩) ?_ ?_;rotate_left
         ·simp only [Act.put, sB, s0, s1, i64_w, i32_w];rfl
         refine pure_ (i := 16) (N := some 45) (v := undef) (a' := ?_) #[tt,tt,tt,tt,tt,tt,tt,tt,tt,tt,tt,tt,tt,tt,tt,tt,tt,ff,ff,ff,ff,ff,ff,ff,ff,ff,ff,ff,ff] rfl rfl (any_of HT_.out (by kernel_rfl)) (fun _ _ _ h => h) (Or.inr ⟨by rfl, rfl⟩) ?_ ?_;rotate_left
         ·simp only [Act.put, sB, s0, s1, i64_w, i32_w];rfl
         refine pure_ (i := 17) (N := some 46) (v := undef) (a' := ?_) #[tt,tt,tt,tt,tt,tt,tt,tt,tt,tt,tt,tt,tt,tt,tt,tt,tt,tt,ff,ff,ff,ff,ff,ff,ff,ff,ff,ff,ff] rfl rfl (any_of HT_.out (by kernel_rfl)) (fun _ _ _ h => h) (Or.inr ⟨by rfl, rfl⟩) ?_ ?_;rotate_left
         ·simp only [Act.put, sB, s0, s1, i64_w, i32_w];rfl
         refine pure_ (i := 18) (N := some 47) (v := undef) (a' := ?_) #[tt,tt,tt,tt,tt,tt,tt,tt,tt,tt,tt,tt,tt,tt,tt,tt,tt,tt,tt,ff,ff,ff,ff,ff,ff,ff,ff,ff,ff] rfl rfl (any_of HT_.out (by kernel_rfl)) (fun _ _ _ h => h) (Or.inr ⟨by rfl, rfl⟩) ?_ ?_;rotate_left
         ·simp only [Act.put, sB, s0, s1, i64_w, i32_w];rfl
         refine pure_ (i := 19) (N := some 48) (v := undef) (a' := ?_) #[tt,tt,tt,tt,tt,tt,tt,tt,tt,tt,tt,tt,tt,tt,tt,tt,tt,tt,tt,tt,ff,ff,ff,ff,ff,ff,ff,ff,ff] rfl rfl (any_of HT_.out (by kernel_rfl)) (fun _ _ _ h => h) (Or.inr ⟨by rfl, rfl⟩) ?_ ?_;rotate_left
         ·simp only [Act.put, sB, s0, s1, i64_w, i32_w];rfl
         refine pure_ (i := 20) (N := some 49) (v := undef) (a' := ?_) #[tt,tt,tt,tt,tt,tt,tt,tt,tt,tt,tt,tt,tt,tt,tt,tt,tt,tt,tt,tt,tt,ff,ff,ff,ff,ff,ff,ff,ff] rfl rfl (any_of HT_.out (by kernel_rfl)) (fun _ _ _ h => h) (Or.inr ⟨by rfl, rfl⟩) ?_ ?_;rotate_left
         ·simp only [Act.put, sB, s0, s1, i64_w, i32_w];rfl
         refine pure_ (i := 21) (N := some 50) (v := undef) (a' := ?_) #[tt,tt,tt,tt,tt,tt,tt,tt,tt,tt,tt,tt,tt,tt,tt,tt,tt,tt,tt,tt,tt,tt,ff,ff,ff,ff,ff,ff,ff] rfl rfl (any_of HT_.out (by kernel_rfl)) (fun _ _ _ h => h) (Or.inr ⟨by rfl, rfl⟩) ?_ ?_;rotate_left
         ·simp only [Act.put, sB, s0, s1, i64_w, i32_w];rfl
         refine pure_ (i := 22) (N := some 51) (v := undef) (a' := ?_) #[tt,tt,tt,tt,tt,tt,tt,tt,tt,tt,tt,tt,tt,tt,tt,tt,tt,tt,tt,tt,tt,tt,tt,ff,ff,ff,ff,ff,ff] rfl rfl (any_of HT_.out (by kernel_rfl)) (fun _ _ _ h => h) (Or.inr ⟨by rfl, rfl⟩) ?_ ?_;rotate_left
         ·simp only [Act.put, sB, s0, s1, i64_w, i32_w];rfl
         refine pure_ (i := 23) (N := some 52) (v := undef) (a' := ?_) #[tt,tt,tt,tt,tt,tt,tt,tt,tt,tt,tt,tt,tt,tt,tt,tt,tt,tt,tt,tt,tt,tt,tt,tt,ff,ff,ff,ff,ff] rfl rfl (any_of HT_.out (by kernel_rfl)) (fun _ _ _ h => h) (Or.inr ⟨by rfl, rfl⟩) ?_ ?_;rotate_left
         ·simp only [Act.put, sB, s0, s1, i64_w, i32_w];rfl
         refine pure_ (i := 24) (N := some 53) (v := undef) (a' := ?_) #[tt,tt,tt,tt,tt,tt,tt,tt,tt,tt,tt,tt,tt,tt,tt,tt,tt,tt,tt,tt,tt,tt,tt,tt,tt,ff,ff,ff,ff] rfl rfl (any_of HT_.out (by kernel_rfl)) (fun _ _ _ h => h) (Or.inr ⟨by rfl, rfl⟩) ?_ ?_;rotate_left
         ·simp only [Act.put, sB, s0, s1, i64_w, i32_w];rfl
         refine pure_ (i := 25) (N := some 54) (v := undef) (a' := ?_) #[tt,tt,tt,tt,tt,tt,tt,tt,tt,tt,tt,tt,tt,tt,tt,tt,tt,tt,tt,tt,tt,tt,tt,tt,tt,tt,ff,ff,ff] rfl rfl (any_of HT_.out (by kernel_rfl)) (fun _ _ _ h => h) (Or.inr ⟨by rfl, rfl⟩) ?_ ?_;rotate_left
         ·simp only [Act.put, sB, s0, s1, i64_w, i32_w];rfl
         refine pure_ (i := 26) (N := some 55) (v := undef) (a' := ?_) #[tt,tt,tt,tt,tt,tt,tt,tt,tt,tt,tt,tt,tt,tt,tt,tt,tt,tt,tt,tt,tt,tt,tt,tt,tt,tt,tt,ff,ff] rfl rfl (any_of HT_.out (by kernel_rfl)) (fun _ _ _ h => h) (Or.inr ⟨by rfl, rfl⟩) ?_ ?_;rotate_left
         ·simp only [Act.put, sB, s0, s1, i64_w, i32_w];rfl
         refine pure_ (i := 27) (N := some 56) (v := undef) (a' := ?_) #[tt,tt,tt,tt,tt,tt,tt,tt,tt,tt,tt,tt,tt,tt,tt,tt,tt,tt,tt,tt,tt,tt,tt,tt,tt,tt,tt,tt,ff] rfl rfl (any_of HT_.out (by kernel_rfl)) (fun _ _ _ h => h) (Or.inr ⟨by rfl, rfl⟩) ?_ ?_;rotate_left
         ·simp only [Act.put, sB, s0, s1, i64_w, i32_w];rfl
         refine pure_ (i := 28) (N := some 57) (v := ?_) (a' := ?_) #[tt,tt,tt,tt,tt,tt,tt,tt,tt,tt,tt,tt,tt,tt,tt,tt,tt,tt,tt,tt,tt,tt,tt,tt,tt,tt,tt,tt,tt] rfl rfl (any_of HT_.out (by kernel_rfl)) (fun _ _ _ h => h) (Or.inl ⟨by rfl, ?_⟩) ?_ ?_;rotate_left
         ·intro w';go_simp;with_reducible rfl
         rotate_left;·simp only [Act.put, sB, s0, s1, i64_w, i32_w];rfl
         refine done_ (done_of HT_.out (by kernel_rfl)) ?_
         try go_wp2
         go_meet
         case rel => exact ⟨_, (true), (by first | rfl | (simp; done) | (simp [*]; done)), H', ⟨by have := HJ1.out; have := HK2.out; first | omega | exact Nat.le_refl _⟩, ⟨bl BK218.out⟩, ⟨bl BK221.out⟩, ⟨by exact bb HB.out⟩⟩
        case rest =>
         clear HC11;try clear c1
         try clear c2
         try clear p2
         try clear c17
         try clear c19
         try clear c23
         try clear c28
         obtain ⟨kq, x57_10, rfl, HA, HJ10, BK218, BK221, HB⟩ := hcut
         cases kq with
         | zero => exact absurd HA.out (by simp [spec_CatOk.j2])
         | succ kj10 =>
          have H := HA.out;clear HA;simp only [spec_CatOk.j2] at H
          by_cases c38 : x57_10 = true
          ·subst c38;rw [if_pos rfl] at H;obtain rfl := Option.some.inj H;go_wp2;go_ret;exact ⟨by first | rfl | (simp [errW_none, errW_some] <;> rfl) | (simp [*, errW_none, errW_some] <;> rfl), by exact bb HB.out⟩
          replace c38 := Bool.eq_false_iff.mpr c38;subst c38;rw [if_neg (show ¬ (false = true) by decide)] at H;have H' := Aside0.mk H;clear H;go_wp2
          go_loopg [5] kj10 (fun kq v5 w' => ∃ (x5_4 : Int), v5 = .int .i64 x5_4 ∧ Aside0 (spec_CatOk.l1 kq x3_2 x5_4 a0_0 l0_1 ((rd_T38 l0_1 x3_2).f0) ((rd_T38 l0_1 x3_2).f1) ((rd_T38 l0_1 x3_2).f2) ((rd_T38 l0_1 x3_2).f3) = some r) ∧ Aside0 (kq ≤ kj10) ∧ Aside0 (w'.heap[gb218]? = some (.cells #[.int .i64 a0_0, (.slice (some ad220) l0_1.length c0_1)] 25 (0, 0))) ∧ Aside0 (w'.heap[gb221]? = some (.cells #[.int .i64 ((rd_T38 l0_1 x3_2).f0), .string ((rd_T38 l0_1 x3_2).f1), .int .i64 ((rd_T38 l0_1 x3_2).f2), .string ((rd_T38 l0_1 x3_2).f3)] 38 (0, 0))) ∧ Aside0 (Below w.heap.size w w'))
          case atStart => exact ⟨(0), (by first | rfl | (simp; done) | (simp [*]; done)), H', ⟨Nat.le_refl _⟩, ⟨bl BK218.out⟩, ⟨bl BK221.out⟩, ⟨by exact bb HB.out⟩⟩
          case round =>
           clear H';try clear c1
           try clear c2
           try clear p2
           try clear c3
           try clear c17
           try clear c19
           try clear c23
           try clear c28
           try clear c38
           try clear p2
           obtain ⟨x5_4, rfl, HA, HK4, BK218, BK221, HB⟩ := hrel
           cases gk with
           | zero => exact absurd HA.out (by simp [spec_CatOk.l1])
           | succ k4 =>
            have H := HA.out;clear HA;simp only [spec_CatOk.l1] at H
            by_cases c39 : x5_4 < x3_2
            ·rw [if_pos c39] at H;have c39b0 : decide (x5_4 < x3_2) = true := decide_eq_true c39;clear c39
             by_cases c40 : 0 ≤ x5_4
             ·rw [if_pos c40] at H;have c40b0 : decide (0 ≤ x5_4) = true := decide_eq_true c40;clear c40
              by_cases c41 : x5_4 < (l0_1.length : Int)
              ·rw [if_pos c41] at H;have c41b0 : decide (x5_4 < (l0_1.length : Int)) = true := decide_eq_true c41;clear c41
               by_cases c42 : ((rd_T38 l0_1 x5_4).f2) = ((rd_T38 l0_1 x3_2).f2)
               ·rw [if_pos c42] at H;have c42b0 : (((rd_T38 l0_1 x5_4).f2) == ((rd_T38 l0_1 x3_2).f2)) = true := beq_iff_eq.mpr c42;have c42b1 : (((rd_T38 l0_1 x5_4).f2) != ((rd_T38 l0_1 x3_2).f2)) = false := bne_eq_false_iff_eq.mpr c42;clear c42;obtain rfl := Option.some.inj H
                try go_wp2
                replace BK218 := Aside0.mk (blk_drew BK218.out);replace BK221 := Aside0.mk (blk_drew BK221.out);replace HB := Aside0.mk (below_drew1 HB.out);have p226 : 0 ≤ (x5_4 : Int) := of_decide_eq_true (by first | (with_reducible assumption) | assumption);have q226 : x5_4 < (l0_1.length : Int) := of_decide_eq_true (by first | (with_reducible assumption) | assumption);obtain ⟨ad226, e226, hx226_0, hx226_1, hx226_2, hx226_3⟩ := at_T38 HR0_1.out x5_4 p226 q226;have hw226_3 := hx226_3;have hw226_2 := hx226_2;have hw226_1 := hx226_1;have hw226_0 := hx226_0;obtain rfl : ad220 = ad226 := (by injection e226);replace hx226_0 := (HB.out.cell (World.block_lt_of_cell? w _ hx226_0)).trans hx226_0;replace hx226_1 := (HB.out.cell (World.block_lt_of_cell? w _ hx226_1)).trans hx226_1;replace hx226_2 := (HB.out.cell (World.block_lt_of_cell? w _ hx226_2)).trans hx226_2;replace hx226_3 := (HB.out.cell (World.block_lt_of_cell? w _ hx226_3)).trans hx226_3;replace p226 := eq_true p226;replace q226 := eq_true q226;refine start_ (n := 9) (S := fun w' => w'.cell? ⟨gb218, 0, none⟩ = some (.int .i64 a0_0) ∧ w'.cell? ⟨gb218, 1, none⟩ = some (.slice (some ad220) l0_1.length c0_1) ∧ w'.cell? ⟨gb221, 0, none⟩ = some (.int .i64 ((rd_T38 l0_1 x3_2).f0)) ∧ w'.cell? ⟨gb221, 1, none⟩ = some (.string ((rd_T38 l0_1 x3_2).f1)) ∧ w'.cell? ⟨gb221, 2, none⟩ = some (.int .i64 ((rd_T38 l0_1 x3_2).f2)) ∧ w'.cell? ⟨gb221, 3, none⟩ = some (.string ((rd_T38 l0_1 x3_2).f3)) ∧ w'.cell? (ad220.add ((x5_4).toNat * 4)) = some (.int .i64 ((rd_T38 l0_1 x5_4).f0)) ∧ w'.cell? ⟨(ad220.add ((x5_4).toNat * 4)).block, (ad220.add ((x5_4).toNat * 4)).off + 1, none⟩ = some (.string ((rd_T38 l0_1 x5_4).f1)) ∧ w'.cell? ⟨(ad220.add ((x5_4).toNat * 4)).block, (ad220.add ((x5_4).toNat * 4)).off + 2, none⟩ = some (.int .i64 ((rd_T38 l0_1 x5_4).f2)) ∧ w'.cell? ⟨(ad220.add ((x5_4).toNat * 4)).block, (ad220.add ((x5_4).toNat * 4)).off + 3, none⟩ = some (.string ((rd_T38 l0_1 x5_4).f3))) (ds := []) #[ff,ff,ff,ff,ff,ff,ff,ff,ff] (by kernel_rfl) rfl rfl ⟨(blk_cell BK218.out 0).trans rfl, (blk_cell BK218.out 1).trans rfl, (blk_cell BK221.out 0).trans rfl, (blk_cell BK221.out 1).trans rfl, (blk_cell BK221.out 2).trans rfl, (blk_cell BK221.out 3).trans rfl, ((HB.out.cell (World.block_lt_of_cell? w _ hw226_0)).trans hw226_0), ((HB.out.cell (World.block_lt_of_cell? w _ hw226_1)).trans hw226_1), ((HB.out.cell (World.block_lt_of_cell? w _ hw226_2)).trans hw226_2), ((HB.out.cell (World.block_lt_of_cell? w _ hw226_3)).trans hw226_3)⟩ (fun hHeld => ?_); refine with_tabW spec_CatOk.tab12 spec_CatOk.bits12 (fun HT_ HW_ => ?_)
                generalize wr.drew = w43 at BK218 BK221 HB hx226_0 hx226_1 hx226_2 hx226_3 hHeld ⊢;refine pure_ (i := 0) (N := some 63) (v := ?_) (a' := ?_) #[tt,ff,ff,ff,ff,ff,ff,ff,ff] rfl rfl (any_of HT_.out (by kernel_rfl)) (fun _ _ _ h => h) (Or.inl ⟨by rfl, ?_⟩) ?_ ?_;rotate_left
                ·intro w';go_simp;with_reducible rfl
                rotate_left;·simp only [Act.put, sB, s0, s1, i64_w, i32_w];rfl
                refine pure_ (i := 2) (N := some 65) (v := ?_) (a' := ?_) #[tt,ff,tt,ff,ff,ff,ff,ff,ff] rfl rfl (any_of HT_.out (by kernel_rfl)) (fun _ _ _ h => h) (Or.inl ⟨by rfl, ?_⟩) ?_ ?_;rotate_left
                ·intro w';go_simp;with_reducible rfl
                rotate_left;·simp only [Act.put, sB, s0, s1, i64_w, i32_w];rfl
                refine pure_ (i := 6) (N := some 69) (v := ?_) (a' := ?_) #[tt,ff,tt,ff,ff,ff,tt,ff,ff] rfl rfl (any_of HT_.out (by kernel_rfl)) (fun _ _ _ h => h) (Or.inl ⟨by rfl, ?_⟩) ?_ ?_;rotate_left
                ·intro w';go_simp;with_reducible rfl
                rotate_left;·simp only [Act.put, sB, s0, s1, i64_w, i32_w];rfl
                refine take_ (i := 1) (N := some 64) (v := ?_) (a' := ?_) #[tt,tt,tt,ff,ff,ff,tt,ff,ff] rfl rfl (take_ofW HT_.out HW_.out (by kernel_rfl)) (fun _ _ _ h => h) (Or.inl ⟨by rfl, ?_⟩) hHeld ?_ ?_;rotate_left
                ·rintro w' ⟨s0, s1, s2, s3, s4, s5, s6, s7, s8, s9⟩;go_simp;with_reducible rfl
                rotate_left;·simp only [Act.put, sB, s0, s1, i64_w, i32_w];rfl
                refine pure_ (i := 3) (N := some 66) (v := ?_) (a' := ?_) #[tt,tt,tt,tt,ff,ff,tt,ff,ff] rfl rfl (any_of HT_.out (by kernel_rfl)) (fun _ _ _ h => h) (Or.inl ⟨by rfl, ?_⟩) ?_ ?_;rotate_left
                ·intro w';go_simp;with_reducible rfl
                rotate_left;·simp only [Act.put, sB, s0, s1, i64_w, i32_w];rfl
                refine pure_ (i := 4) (N := some 67) (v := ?_) (a' := ?_) #[tt,tt,tt,tt,tt,ff,tt,ff,ff] rfl rfl (any_of HT_.out (by kernel_rfl)) (fun _ _ _ h => h) (Or.inl ⟨by rfl, ?_⟩) ?_ ?_;rotate_left
                ·intro w';go_simp;with_reducible rfl
                rotate_left;·simp only [Act.put, sB, s0, s1, i64_w, i32_w];rfl
                refine take_ (i := 5) (N := some 68) (v := ?_) (a' := ?_) #[tt,tt,tt,tt,tt,tt,tt,ff,ff] rfl rfl (take_ofW HT_.out HW_.out (by kernel_rfl)) (fun _ _ _ h => h) (Or.inl ⟨by rfl, ?_⟩) hHeld ?_ ?_;rotate_left
                ·rintro w' ⟨s0, s1, s2, s3, s4, s5, s6, s7, s8, s9⟩;go_simp;with_reducible rfl
                rotate_left;·simp only [Act.put, sB, s0, s1, i64_w, i32_w];rfl
                refine take_ (i := 7) (N := some 70) (v := ?_) (a' := ?_) #[tt,tt,tt,tt,tt,tt,tt,tt,ff] rfl rfl (take_ofW HT_.out HW_.out (by kernel_rfl)) (fun _ _ _ h => h) (Or.inl ⟨by rfl, ?_⟩) hHeld ?_ ?_;rotate_left
                ·rintro w' ⟨s0, s1, s2, s3, s4, s5, s6, s7, s8, s9⟩;go_simp;with_reducible rfl
                rotate_left;·simp only [Act.put, sB, s0, s1, i64_w, i32_w];rfl
                refine pure_ (i := 8) (N := some 71) (v := ?_) (a' := ?_) #[tt,tt,tt,tt,tt,tt,tt,tt,tt] rfl rfl (any_of HT_.out (by kernel_rfl)) (fun _ _ _ h => h) (Or.inl ⟨by rfl, ?_⟩) ?_ ?_;rotate_left
                ·intro w';go_simp;with_reducible rfl
                rotate_left;·simp only [Act.put, sB, s0, s1, i64_w, i32_w];rfl
                refine done_ (done_of HT_.out (by kernel_rfl)) ?_
                try go_wp2
                go_ret;exact ⟨by first | rfl | (simp [errW_none, errW_some] <;> rfl) | (simp [*, errW_none, errW_some] <;> rfl), by exact bb HB.out⟩
               rw [if_neg c42] at H;have c42b0 : (((rd_T38 l0_1 x5_4).f2) == ((rd_T38 l0_1 x3_2).f2)) = false := beq_eq_false_iff_ne.mpr c42;have c42b1 : (((rd_T38 l0_1 x5_4).f2) != ((rd_T38 l0_1 x3_2).f2)) = true := bne_iff_ne.mpr c42;have H' := Aside0.mk H;clear H
               try go_wp2
               replace BK218 := Aside0.mk (blk_drew BK218.out);replace BK221 := Aside0.mk (blk_drew BK221.out);replace HB := Aside0.mk (below_drew1 HB.out);have p226 : 0 ≤ (x5_4 : Int) := of_decide_eq_true (by first | (with_reducible assumption) | assumption);have q226 : x5_4 < (l0_1.length : Int) := of_decide_eq_true (by first | (with_reducible assumption) | assumption);obtain ⟨ad226, e226, hx226_0, hx226_1, hx226_2, hx226_3⟩ := at_T38 HR0_1.out x5_4 p226 q226;have hw226_3 := hx226_3;have hw226_2 := hx226_2;have hw226_1 := hx226_1;have hw226_0 := hx226_0;obtain rfl : ad220 = ad226 := (by injection e226);replace hx226_0 := (HB.out.cell (World.block_lt_of_cell? w _ hx226_0)).trans hx226_0;replace hx226_1 := (HB.out.cell (World.block_lt_of_cell? w _ hx226_1)).trans hx226_1;replace hx226_2 := (HB.out.cell (World.block_lt_of_cell? w _ hx226_2)).trans hx226_2;replace hx226_3 := (HB.out.cell (World.block_lt_of_cell? w _ hx226_3)).trans hx226_3;replace p226 := eq_true p226;replace q226 := eq_true q226;refine start_ (n := 9) (S := fun w' => w'.cell? ⟨gb218, 0, none⟩ = some (.int .i64 a0_0) ∧ w'.cell? ⟨gb218, 1, none⟩ = some (.slice (some ad220) l0_1.length c0_1) ∧ w'.cell? ⟨gb221, 0, none⟩ = some (.int .i64 ((rd_T38 l0_1 x3_2).f0)) ∧ w'.cell? ⟨gb221, 1, none⟩ = some (.string ((rd_T38 l0_1 x3_2).f1)) ∧ w'.cell? ⟨gb221, 2, none⟩ = some (.int .i64 ((rd_T38 l0_1 x3_2).f2)) ∧ w'.cell? ⟨gb221, 3, none⟩ = some (.string ((rd_T38 l0_1 x3_2).f3)) ∧ w'.cell? (ad220.add ((x5_4).toNat * 4)) = some (.int .i64 ((rd_T38 l0_1 x5_4).f0)) ∧ w'.cell? ⟨(ad220.add ((x5_4).toNat * 4)).block, (ad220.add ((x5_4).toNat * 4)).off + 1, none⟩ = some (.string ((rd_T38 l0_1 x5_4).f1)) ∧ w'.cell? ⟨(ad220.add ((x5_4).toNat * 4)).block, (ad220.add ((x5_4).toNat * 4)).off + 2, none⟩ = some (.int .i64 ((rd_T38 l0_1 x5_4).f2)) ∧ w'.cell? ⟨(ad220.add ((x5_4).toNat * 4)).block, (ad220.add ((x5_4).toNat * 4)).off + 3, none⟩ = some (.string ((rd_T38 l0_1 x5_4).f3))) (ds := []) #[ff,ff,ff,ff,ff,ff,ff,ff,ff] (by kernel_rfl) rfl rfl ⟨(blk_cell BK218.out 0).trans rfl, (blk_cell BK218.out 1).trans rfl, (blk_cell BK221.out 0).trans rfl, (blk_cell BK221.out 1).trans rfl, (blk_cell BK221.out 2).trans rfl, (blk_cell BK221.out 3).trans rfl, ((HB.out.cell (World.block_lt_of_cell? w _ hw226_0)).trans hw226_0), ((HB.out.cell (World.block_lt_of_cell? w _ hw226_1)).trans hw226_1), ((HB.out.cell (World.block_lt_of_cell? w _ hw226_2)).trans hw226_2), ((HB.out.cell (World.block_lt_of_cell? w _ hw226_3)).trans hw226_3)⟩ (fun hHeld => ?_); refine with_tabW spec_CatOk.tab12 spec_CatOk.bits12 (fun HT_ HW_ => ?_)
               generalize wr.drew = w44 at BK218 BK221 HB hx226_0 hx226_1 hx226_2 hx226_3 hHeld ⊢;refine pure_ (i := 0) (N := some 63) (v := ?_) (a' := ?_) #[tt,ff,ff,ff,ff,ff,ff,ff,ff] rfl rfl (any_of HT_.out (by kernel_rfl)) (fun _ _ _ h => h) (Or.inl ⟨by rfl, ?_⟩) ?_ ?_;rotate_left
               ·intro w';go_simp;with_reducible rfl
               rotate_left;·simp only [Act.put, sB, s0, s1, i64_w, i32_w];rfl
               refine pure_ (i := 2) (N := some 65) (v := ?_) (a' := ?_) #[tt,ff,tt,ff,ff,ff,ff,ff,ff] rfl rfl (any_of HT_.out (by kernel_rfl)) (fun _ _ _ h => h) (Or.inl ⟨by rfl, ?_⟩) ?_ ?_;rotate_left
               ·intro w';go_simp;with_reducible rfl
               rotate_left;·simp only [Act.put, sB, s0, s1, i64_w, i32_w];rfl
               refine pure_ (i := 6) (N := some 69) (v := ?_) (a' := ?_) #[tt,ff,tt,ff,ff,ff,tt,ff,ff] rfl rfl (any_of HT_.out (by kernel_rfl)) (fun _ _ _ h => h) (Or.inl ⟨by rfl, ?_⟩) ?_ ?_;rotate_left
               ·intro w';go_simp;with_reducible rfl
               rotate_left;·simp only [Act.put, sB, s0, s1, i64_w, i32_w];rfl
               refine take_ (i := 1) (N := some 64) (v := ?_) (a' := ?_) #[tt,tt,tt,ff,ff,ff,tt,ff,ff] rfl rfl (take_ofW HT_.out HW_.out (by kernel_rfl)) (fun _ _ _ h => h) (Or.inl ⟨by rfl, ?_⟩) hHeld ?_ ?_;rotate_left
               ·rintro w' ⟨s0, s1, s2, s3, s4, s5, s6, s7, s8, s9⟩;go_simp;with_reducible rfl
               rotate_left;·simp only [Act.put, sB, s0, s1, i64_w, i32_w];rfl
               refine pure_ (i := 3) (N := some 66) (v := ?_) (a' := ?_) #[tt,tt,tt,tt,ff,ff,tt,ff,ff] rfl rfl (any_of HT_.out (by kernel_rfl)) (fun _ _ _ h => h) (Or.inl ⟨by rfl, ?_⟩) ?_ ?_;rotate_left
               ·intro w';go_simp;with_reducible rfl
               rotate_left;·simp only [Act.put, sB, s0, s1, i64_w, i32_w];rfl
               refine pure_ (i := 4) (N := some 67) (v := ?_) (a' := ?_) #[tt,tt,tt,tt,tt,ff,tt,ff,ff] rfl rfl (any_of HT_.out (by kernel_rfl)) (fun _ _ _ h => h) (Or.inl ⟨by rfl, ?_⟩) ?_ ?_;rotate_left
               ·intro w';go_simp;with_reducible rfl
               rotate_left;·simp only [Act.put, sB, s0, s1, i64_w, i32_w];rfl
               refine take_ (i := 5) (N := some 68) (v := ?_) (a' := ?_) #[tt,tt,tt,tt,tt,tt,tt,ff,ff] rfl rfl (take_ofW HT_.out HW_.out (by kernel_rfl)) (fun _ _ _ h => h) (Or.inl ⟨by rfl, ?_⟩) hHeld ?_ ?_;rotate_left
               ·rintro w' ⟨s0, s1, s2, s3, s4, s5, s6, s7, s8, s9⟩;go_simp;with_reducible rfl
               rotate_left;·simp only [Act.put, sB, s0, s1, i64_w, i32_w];rfl
               refine take_ (i := 7) (N := some 70) (v := ?_) (a' := ?_) #[tt,tt,tt,tt,tt,tt,tt,tt,ff] rfl rfl (take_ofW HT_.out HW_.out (by kernel_rfl)) (fun _ _ _ h => h) (Or.inl ⟨by rfl, ?_⟩) hHeld ?_ ?_;rotate_left
               ·rintro w' ⟨s0, s1, s2, s3, s4, s5, s6, s7, s8, s9⟩;go_simp;with_reducible rfl
               rotate_left;·simp only [Act.put, sB, s0, s1, i64_w, i32_w];rfl
               refine pure_ (i := 8) (N := some 71) (v := ?_) (a' := ?_) #[tt,tt,tt,tt,tt,tt,tt,tt,tt] rfl rfl (any_of HT_.out (by kernel_rfl)) (fun _ _ _ h => h) (Or.inl ⟨by rfl, ?_⟩) ?_ ?_;rotate_left
               ·intro w';go_simp;with_reducible rfl
               rotate_left;·simp only [Act.put, sB, s0, s1, i64_w, i32_w];rfl
               refine done_ (done_of HT_.out (by kernel_rfl)) ?_
               try go_wp2
               go_roundg k4
               case measure => have := HJ1.out; have := HK2.out; have := HJ10.out; have := HK4.out; omega
               case rel => exact ⟨(wrap64 (x5_4 + 1)), (by first | rfl | (simp; done) | (simp [*]; done)), H', ⟨by have := HJ1.out; have := HK2.out; have := HJ10.out; have := HK4.out; omega⟩, ⟨bl BK218.out⟩, ⟨bl BK221.out⟩, ⟨by exact bb HB.out⟩⟩
              rw [if_neg c41] at H;exact absurd H (by simp)
             rw [if_neg c40] at H;exact absurd H (by simp)
            rw [if_neg c39] at H;have c39b0 : decide (x5_4 < x3_2) = false := decide_eq_false c39;clear c39;have H' := Aside0.mk H;clear H;go_wp2
            go_roundg k4
            case measure => have := HJ1.out; have := HK2.out; have := HJ10.out; have := HK4.out; omega
            case rel => exact ⟨(wrap64 (x3_2 + 1)), (by first | rfl | (simp; done) | (simp [*]; done)), H', ⟨by have := HJ1.out; have := HK2.out; have := HJ10.out; have := HK4.out; omega⟩, ⟨bl BK218.out⟩, ⟨by exact bb HB.out⟩⟩
       rw [if_neg c10] at H;exact absurd H (by simp)
      ·rw [if_neg c9] at H;have c9b0 : decide (x3_2 < (l0_1.length : Int)) = false := decide_eq_false c9;clear c9;have H' := Aside0.mk H;clear H;obtain ⟨hcz45_0, hcz45_1, hfz45_0, hfz45_1⟩ := c2 BK218;go_wp2
       go_loopg [6] k2 (fun kq v6 w' => ∃ (x6_3 : Int), v6 = .int .i64 x6_3 ∧ Aside0 (spec_CatOk.l2 kq x6_3 a0_0 l0_1 = some r) ∧ Aside0 (kq ≤ k2) ∧ Aside0 (w'.heap[gb218]? = some (.cells #[.int .i64 a0_0, (.slice A0_1 l0_1.length c0_1)] 25 (0, 0))) ∧ Aside0 (Below w.heap.size w w'))
       case atStart => exact ⟨(0), (by first | rfl | (simp; done) | (simp [*]; done)), H', ⟨Nat.le_refl _⟩, ⟨bl BK218.out⟩, ⟨by exact bb HB.out⟩⟩
       case round =>
        clear H';try clear c1
        try clear c2
        try clear p2
        try clear q2
        try clear hx2
        try clear c3
        try clear c4
        try clear p6
        try clear c9
        try clear c9b0
        try clear c10
        try clear c17
        try clear c19
        try clear p22
        try clear q22
        try clear hx22
        try clear c23
        try clear c28
        try clear c38
        try clear c39
        try clear c39b0
        try clear c40
        try clear c40b0
        try clear c41
        try clear c41b0
        try clear c42
        try clear c42b0
        try clear c42b1
        try clear hcz45_0
        try clear hcz45_1
        try clear hfz45_0
        try clear hfz45_1
        try clear hx226_0
        try clear hx226_1
        try clear hx226_2
        try clear hx226_3
        try clear p2
        try clear p226
        try clear q226
        obtain ⟨x6_3, rfl, HA, HK3, BK218, HB⟩ := hrel
        cases gk with
        | zero => exact absurd HA.out (by simp [spec_CatOk.l2])
        | succ k3 =>
         have H := HA.out;clear HA;simp only [spec_CatOk.l2] at H
         by_cases c46 : x6_3 < 2
         ·rw [if_pos c46] at H;have c46b0 : decide (x6_3 < 2) = true := decide_eq_true c46;clear c46;replace H := Option.bind_eq_some_iff.mp H;obtain ⟨t227, A470, H⟩ := H;have A47 := Aside0.mk A470;clear A470
          by_cases c48 : t227 > 500
          ·rw [if_pos c48] at H;have c48b0 : decide (500 < t227) = true := decide_eq_true c48;clear c48;obtain rfl := Option.some.inj H;obtain ⟨hcz49_0, hcz49_1, hfz49_0, hfz49_1⟩ := c2 BK218;go_wp2_with (first | ((with_reducible refine gate_callee (f := 26) rfl ?_); refine goesL_ (some 79) rfl rfl Try.func26 (by kernel_rfl) rfl #[.slice A0_1 l0_1.length c0_1, .int .i64 x6_3] rfl (by (try simp only [List.map_toArray, List.map_cons, List.map_nil]); first | done | rfl | (simp only [List.length_drop, List.length_take]; rfl)) ?_; (with_reducible refine (spec_l9Bytes.calls k3 _ _ l0_1 x6_3 t227 _ ?side1 ?side2 A47.out).mono ?_); (case side1 => repeat (first | exact (Kd.C_below HR0_1.out HB.out) | (with_reducible refine Kd.C_alloc ?_ _) | (with_reducible refine Kd.C_drewN ?_ _) | (with_reducible refine Kd.C_drew ?_))); (case side2 => exact HC0_1.out); rintro e w' ⟨rfl, ⟨nd, rfl⟩⟩; refine ⟨_, rfl, ?_⟩));go_ret;exact ⟨by first | rfl | (simp [errW_none, errW_some] <;> rfl) | (simp [*, errW_none, errW_some] <;> rfl), by exact bb HB.out⟩
          rw [if_neg c48] at H;have c48b0 : decide (500 < t227) = false := decide_eq_false c48;clear c48;have H' := Aside0.mk H;clear H;obtain ⟨hcz50_0, hcz50_1, hfz50_0, hfz50_1⟩ := c2 BK218;go_wp2_with (first | ((with_reducible refine gate_callee (f := 26) rfl ?_); refine goesL_ (some 79) rfl rfl Try.func26 (by kernel_rfl) rfl #[.slice A0_1 l0_1.length c0_1, .int .i64 x6_3] rfl (by (try simp only [List.map_toArray, List.map_cons, List.map_nil]); first | done | rfl | (simp only [List.length_drop, List.length_take]; rfl)) ?_; (with_reducible refine (spec_l9Bytes.calls k3 _ _ l0_1 x6_3 t227 _ ?side1 ?side2 A47.out).mono ?_); (case side1 => repeat (first | exact (Kd.C_below HR0_1.out HB.out) | (with_reducible refine Kd.C_alloc ?_ _) | (with_reducible refine Kd.C_drewN ?_ _) | (with_reducible refine Kd.C_drew ?_))); (case side2 => exact HC0_1.out); rintro e w' ⟨rfl, ⟨nd, rfl⟩⟩; refine ⟨_, rfl, ?_⟩))
          go_roundg k3
          case measure => have := HJ1.out; have := HK2.out; have := HK3.out; omega
          case rel => exact ⟨(wrap64 (x6_3 + 1)), (by first | rfl | (simp; done) | (simp [*]; done)), H', ⟨by have := HJ1.out; have := HK2.out; have := HK3.out; omega⟩, ⟨bl BK218.out⟩, ⟨by exact bb HB.out⟩⟩
         rw [if_neg c46] at H;have c46b0 : decide (x6_3 < 2) = false := decide_eq_false c46;clear c46;obtain rfl := Option.some.inj H;go_wp2;go_ret;exact ⟨by first | rfl | (simp [errW_none, errW_some] <;> rfl) | (simp [*, errW_none, errW_some] <;> rfl), by exact bb HB.out⟩
mutual
def spec_l9At.l0 : Nat → Int → ByteArray → Int → Int → List (S38) → Option (Int)
 | 0, _, _, _, _, _ => none
 | k + 1, x1, x2, x7, x229000, x229001 => if x7 < (x229001.length : Int) then (if 0 ≤ x7 then (if ((rd_T38 x229001 x7).f0) = x1 then (spec_l9At.j1 k x1 x2 x7 (((rd_T38 x229001 x7).f1).toList == x2.toList) x229000 x229001) else (spec_l9At.j1 k x1 x2 x7 false x229000 x229001)) else (none)) else (some (-1))
def spec_l9At.j1 : Nat → Int → ByteArray → Int → Bool → Int → List (S38) → Option (Int)
 | 0, _, _, _, _, _, _ => none
 | k + 1, x1, x2, x7, x32, x229000, x229001 => if x32 = true then (some x7) else (spec_l9At.l0 k x1 x2 (wrap64 (x7 + 1)) x229000 x229001)
end
def spec_l9At.f (k : Nat) (a0_0 : Int) (l0_1 : List (S38)) (a1 : Int) (a2 : ByteArray) : Option (Int) := spec_l9At.l0 k a1 a2 0 a0_0 l0_1
theorem spec_l9At.mono_l : ∀ k, (∀ y0 y1 y2 y3 y4, LeO (spec_l9At.l0 k y0 y1 y2 y3 y4) (spec_l9At.l0 (k + 1) y0 y1 y2 y3 y4)) ∧ (∀ y0 y1 y2 y3 y4 y5, LeO (spec_l9At.j1 k y0 y1 y2 y3 y4 y5) (spec_l9At.j1 (k + 1) y0 y1 y2 y3 y4 y5))
 | 0 => ⟨fun _ _ _ _ _ r h => by simp [spec_l9At.l0] at h, fun _ _ _ _ _ _ r h => by simp [spec_l9At.j1] at h⟩
 | k + 1 => by
  obtain ⟨ih0, ih1⟩ := spec_l9At.mono_l k;refine ⟨?_, ?_⟩;intro y0 y1 y2 y3 y4; unfold spec_l9At.l0; rotate_left
  intro y0 y1 y2 y3 y4 y5; unfold spec_l9At.j1; rotate_left
  all_goals repeat' first
   | (with_reducible exact ih0 _ _ _ _ _)
   | (with_reducible exact ih1 _ _ _ _ _ _)
   | (with_reducible exact LeO.refl _)
   | (with_reducible exact LeO.none _)
   | (with_reducible refine LeO.ite ?_ ?_)
   | (with_reducible refine LeO.bind ?_ (fun _ => ?_))
   | exact LeO.none _
   | refine LeO.ite ?_ ?_
   | refine LeO.bind ?_ (fun _ => ?_)
theorem spec_l9At.mono : ∀ a0 a1 a2 a3 k, LeO (spec_l9At.f k a0 a1 a2 a3) (spec_l9At.f (k + 1) a0 a1 a2 a3) := by
 intro a0 a1 a2 a3 k;obtain ⟨ih0, ih1⟩ := spec_l9At.mono_l k;unfold spec_l9At.f
 repeat' first
   | (with_reducible exact ih0 _ _ _ _ _)
   | (with_reducible exact ih1 _ _ _ _ _ _)
   | (with_reducible exact LeO.refl _)
   | (with_reducible exact LeO.none _)
   | (with_reducible refine LeO.ite ?_ ?_)
   | (with_reducible refine LeO.bind ?_ (fun _ => ?_))
   | exact LeO.none _
   | refine LeO.ite ?_ ?_
   | refine LeO.bind ?_ (fun _ => ?_)
set_option maxHeartbeats 8000000 in
set_option maxRecDepth 100000 in
theorem spec_l9At.calls (k : Nat) (a0_0 : Int) (A0_1 : Option Addr) (c0_1 : Nat) (l0_1 : List (S38)) (a1 : Int) (a2 : ByteArray) (r : Int) (w : World) (hr0_1 : Kd.C k38 w A0_1 l0_1.length l0_1) (hc0_1 : l0_1.length ≤ c0_1) (h : spec_l9At.f k a0_0 l0_1 a1 a2 = some r) :
  Calls Try.prog 25 #[.agg #[.int .i64 a0_0, .slice A0_1 l0_1.length c0_1], .int .i64 a1, .string a2] w fun e w' => e = .returned (.int .i64 r) ∧ Below w.heap.size w w' := by
 have hu25 := Try.underlying25;have HR0_1 := Aside0.mk hr0_1;have HC0_1 := Aside0.mk hc0_1;clear hr0_1 hc0_1;have HB := Aside0.mk (Below.refl w.heap.size w);have H : (spec_l9At.l0 k a1 a2 0 a0_0 l0_1) = some r := h;clear h;have H' := Aside0.mk H;clear H
 go_enter Try.func25, Try.ntmps25
 go_wp2_with (first | ((with_reducible refine gate_dst (N := 3) rfl ?_); refine box_event ?hg (N := 3) ?hd (cs := #[.int .i64 a0_0, .slice A0_1 l0_1.length c0_1]) (t := 25) ?hr ?_; (case hd => rfl); (case hg => rfl); (case hr => first | (go_simp; done) | (go_simp; rfl)); intro gb228 hg w4 hbox hb; have BK228 := Aside0.mk (hbox); have GW228 := gw HB hg; have GE228 := gw HB hg; replace HB := hbb HB hb; clear hb hbox hg))
 go_loopg [7] k (fun kq v7 w' => ∃ (x7_1 : Int), v7 = .int .i64 x7_1 ∧ Aside0 (spec_l9At.l0 kq a1 a2 x7_1 a0_0 l0_1 = some r) ∧ Aside0 (kq ≤ k) ∧ Aside0 (w'.heap[gb228]? = some (.cells #[.int .i64 a0_0, (.slice A0_1 l0_1.length c0_1)] 25 (0, 0))) ∧ Aside0 (Below w.heap.size w w'))
 case atStart => exact ⟨(0), (by first | rfl | (simp; done) | (simp [*]; done)), H', ⟨Nat.le_refl _⟩, ⟨bl BK228.out⟩, ⟨by exact bb HB.out⟩⟩
 case round =>
  clear H';try clear c2
  try clear p2
  obtain ⟨x7_1, rfl, HA, HK1, BK228, HB⟩ := hrel
  cases gk with
  | zero => exact absurd HA.out (by simp [spec_l9At.l0])
  | succ k1 =>
   have H := HA.out;clear HA;simp only [spec_l9At.l0] at H
   by_cases c5 : x7_1 < (l0_1.length : Int)
   ·rw [if_pos c5] at H;have c5b0 : decide (x7_1 < (l0_1.length : Int)) = true := decide_eq_true c5;clear c5;have HC6 := Aside0.mk H;clear H;obtain ⟨hcz7_0, hcz7_1, hfz7_0, hfz7_1⟩ := c2 BK228
    go_upto_region 4 with (fail)
    go_cut [32] (fun v32 wc => ∃ (kq : Nat) (x32_5 : Bool), v32 = .bool x32_5 ∧ Aside0 (spec_l9At.j1 kq a1 a2 x7_1 x32_5 a0_0 l0_1 = some r) ∧ Aside0 (kq ≤ k1) ∧ Aside0 (wc.heap[gb228]? = some (.cells #[.int .i64 a0_0, (.slice A0_1 l0_1.length c0_1)] 25 (0, 0))) ∧ Aside0 (Below w.heap.size w wc))
    case first =>
     have H := HC6.out;clear HC6
     by_cases c8 : 0 ≤ x7_1
     ·rw [if_pos c8] at H;have c8b0 : decide (0 ≤ x7_1) = true := decide_eq_true c8;clear c8
      (first | rw [c8b0] | (simp only [i64_w, i32_w]; rw [c8b0]) | skip)
      by_cases c9 : ((rd_T38 l0_1 x7_1).f0) = a1
      ·rw [if_pos c9] at H;have c9b0 : (((rd_T38 l0_1 x7_1).f0) == a1) = true := beq_iff_eq.mpr c9;have c9b1 : (((rd_T38 l0_1 x7_1).f0) != a1) = false := bne_eq_false_iff_eq.mpr c9;clear c9;have H' := Aside0.mk H;clear H;obtain ⟨hcz10_0, hcz10_1, hfz10_0, hfz10_1⟩ := c2 BK228;have p229 : 0 ≤ (x7_1 : Int) := of_decide_eq_true (by first | (with_reducible assumption) | assumption);have q229 : x7_1 < (l0_1.length : Int) := of_decide_eq_true (by first | (with_reducible assumption) | assumption);obtain ⟨ad229, e229, hx229_0, hx229_1, hx229_2, hx229_3⟩ := at_T38 HR0_1.out x7_1 p229 q229
       cases e229
       replace hx229_0 := (HB.out.cell (World.block_lt_of_cell? w _ hx229_0)).trans hx229_0;replace hx229_1 := (HB.out.cell (World.block_lt_of_cell? w _ hx229_1)).trans hx229_1;replace hx229_2 := (HB.out.cell (World.block_lt_of_cell? w _ hx229_2)).trans hx229_2;replace hx229_3 := (HB.out.cell (World.block_lt_of_cell? w _ hx229_3)).trans hx229_3;replace p229 := eq_true p229;replace q229 := eq_true q229;have p230 : 0 ≤ (x7_1 : Int) := of_decide_eq_true (by first | (with_reducible assumption) | assumption);have q230 : x7_1 < (l0_1.length : Int) := of_decide_eq_true (by first | (with_reducible assumption) | assumption);obtain ⟨ad230, e230, hx230_0, hx230_1, hx230_2, hx230_3⟩ := at_T38 HR0_1.out x7_1 p230 q230;obtain rfl : ad229 = ad230 := (by injection e230);replace hx230_0 := (HB.out.cell (World.block_lt_of_cell? w _ hx230_0)).trans hx230_0;replace hx230_1 := (HB.out.cell (World.block_lt_of_cell? w _ hx230_1)).trans hx230_1;replace hx230_2 := (HB.out.cell (World.block_lt_of_cell? w _ hx230_2)).trans hx230_2;replace hx230_3 := (HB.out.cell (World.block_lt_of_cell? w _ hx230_3)).trans hx230_3;replace p230 := eq_true p230;replace q230 := eq_true q230;go_wp2
       go_meet
       case rel => exact ⟨_, ((((rd_T38 l0_1 x7_1).f1).toList == a2.toList)), (by first | rfl | (simp; done) | (simp [*]; done)), H', ⟨by have := HK1.out; first | omega | exact Nat.le_refl _⟩, ⟨bl BK228.out⟩, ⟨by exact bb HB.out⟩⟩
      rw [if_neg c9] at H;have c9b0 : (((rd_T38 l0_1 x7_1).f0) == a1) = false := beq_eq_false_iff_ne.mpr c9;have c9b1 : (((rd_T38 l0_1 x7_1).f0) != a1) = true := bne_iff_ne.mpr c9;have H' := Aside0.mk H;clear H;obtain ⟨hcz11_0, hcz11_1, hfz11_0, hfz11_1⟩ := c2 BK228;have p229 : 0 ≤ (x7_1 : Int) := of_decide_eq_true (by first | (with_reducible assumption) | assumption);have q229 : x7_1 < (l0_1.length : Int) := of_decide_eq_true (by first | (with_reducible assumption) | assumption);obtain ⟨ad229, e229, hx229_0, hx229_1, hx229_2, hx229_3⟩ := at_T38 HR0_1.out x7_1 p229 q229
      cases e229
      replace hx229_0 := (HB.out.cell (World.block_lt_of_cell? w _ hx229_0)).trans hx229_0;replace hx229_1 := (HB.out.cell (World.block_lt_of_cell? w _ hx229_1)).trans hx229_1;replace hx229_2 := (HB.out.cell (World.block_lt_of_cell? w _ hx229_2)).trans hx229_2;replace hx229_3 := (HB.out.cell (World.block_lt_of_cell? w _ hx229_3)).trans hx229_3;replace p229 := eq_true p229;replace q229 := eq_true q229;go_wp2
      go_meet
      case rel => exact ⟨_, (false), (by first | rfl | (simp; done) | (simp [*]; done)), H', ⟨by have := HK1.out; first | omega | exact Nat.le_refl _⟩, ⟨bl BK228.out⟩, ⟨by exact bb HB.out⟩⟩
     rw [if_neg c8] at H;exact absurd H (by simp)
    case rest =>
     clear HC6;try clear c2
     try clear p2
     try clear q2
     try clear hx2
     try clear c5
     try clear c5b0
     try clear c8
     try clear c8b0
     try clear c9
     try clear c9b0
     try clear c9b1
     try clear hcz10_0
     try clear hcz10_1
     try clear hcz11_0
     try clear hcz11_1
     try clear hcz7_0
     try clear hcz7_1
     try clear hfz10_0
     try clear hfz10_1
     try clear hfz11_0
     try clear hfz11_1
     try clear hfz7_0
     try clear hfz7_1
     try clear hx229_0
     try clear hx229_1
     try clear hx229_2
     try clear hx229_3
     try clear hx230_0
     try clear hx230_1
     try clear hx230_2
     try clear hx230_3
     try clear p2
     try clear p229
     try clear p230
     try clear q229
     try clear q230
     obtain ⟨kq, x32_5, rfl, HA, HJ5, BK228, HB⟩ := hcut
     cases kq with
     | zero => exact absurd HA.out (by simp [spec_l9At.j1])
     | succ kj5 =>
      have H := HA.out;clear HA;simp only [spec_l9At.j1] at H
      by_cases c12 : x32_5 = true
      ·subst c12;rw [if_pos rfl] at H;obtain rfl := Option.some.inj H;go_wp2;go_ret;exact ⟨by first | rfl | (simp [errW_none, errW_some] <;> rfl) | (simp [*, errW_none, errW_some] <;> rfl), by exact bb HB.out⟩
      replace c12 := Bool.eq_false_iff.mpr c12;subst c12;rw [if_neg (show ¬ (false = true) by decide)] at H;have H' := Aside0.mk H;clear H;go_wp2
      go_roundg kj5
      case measure => have := HK1.out; have := HJ5.out; omega
      case rel => exact ⟨(wrap64 (x7_1 + 1)), (by first | rfl | (simp; done) | (simp [*]; done)), H', ⟨by have := HK1.out; have := HJ5.out; omega⟩, ⟨bl BK228.out⟩, ⟨by exact bb HB.out⟩⟩
   rw [if_neg c5] at H;have c5b0 : decide (x7_1 < (l0_1.length : Int)) = false := decide_eq_false c5;clear c5;obtain rfl := Option.some.inj H;obtain ⟨hcz13_0, hcz13_1, hfz13_0, hfz13_1⟩ := c2 BK228;go_wp2;go_ret;exact ⟨by first | rfl | (simp [errW_none, errW_some] <;> rfl) | (simp [*, errW_none, errW_some] <;> rfl), by exact bb HB.out⟩
mutual
def spec_l9Put.l0 : Nat → Int → Int → List (S38) → Int → ByteArray → Int → ByteArray → Option (Int × (List (S38)))
 | 0, _, _, _, _, _, _, _ => none
 | k + 1, x5, x232000, x232001, x233000, x233001, x233002, x233003 => if x5 < (x232001.length : Int) then (if 0 ≤ x5 then ((spec_l9Less.f k ((rd_T38 x232001 x5).f0) ((rd_T38 x232001 x5).f1) ((rd_T38 x232001 x5).f2) ((rd_T38 x232001 x5).f3) x233000 x233001).bind fun t235 => (spec_l9Put.j1 k x5 t235 x232000 x232001 x233000 x233001 x233002 x233003)) else (none)) else (spec_l9Put.j1 k x5 false x232000 x232001 x233000 x233001 x233002 x233003)
def spec_l9Put.j1 : Nat → Int → Bool → Int → List (S38) → Int → ByteArray → Int → ByteArray → Option (Int × (List (S38)))
 | 0, _, _, _, _, _, _, _, _ => none
 | k + 1, x5, x23, x232000, x232001, x233000, x233001, x233002, x233003 => if x23 = true then (spec_l9Put.l0 k (wrap64 (x5 + 1)) x232000 x232001 x233000 x233001 x233002 x233003) else ((some (([] : List (S38)) : List (S38))).bind fun y237 => (if 0 ≤ x5 then (if x5 ≤ (x232001.length : Int) then ((some (x232001.take (x5 : Int).toNat : List (S38))).bind fun y240 => (if y237.length + y240.length < 2932031007402 then ((some (y237 ++ y240 : List (S38))).bind fun y244 => ((some (([(⟨x233000, x233001, wrap64 (x232000 + 1), x233003⟩ : S38)] : List (S38)) : List (S38))).bind fun y247 => (if y244.length + y247.length < 2932031007402 then ((some (y244 ++ y247 : List (S38))).bind fun y250 => ((some (x232001.drop (x5 : Int).toNat : List (S38))).bind fun y253 => (if y250.length + y253.length < 2932031007402 then (some (wrap64 (x232000 + 1), (y250 ++ y253))) else (none)))) else (none)))) else (none))) else (none)) else (none)))
end
def spec_l9Put.f (k : Nat) (a0_0 : Int) (l0_1 : List (S38)) (a1_0 : Int) (a1_1 : ByteArray) (a1_2 : Int) (a1_3 : ByteArray) : Option (Int × (List (S38))) := spec_l9Put.l0 k 0 a0_0 l0_1 a1_0 a1_1 a1_2 a1_3
theorem spec_l9Put.mono_l : ∀ k, (∀ y0 y1 y2 y3 y4 y5 y6, LeO (spec_l9Put.l0 k y0 y1 y2 y3 y4 y5 y6) (spec_l9Put.l0 (k + 1) y0 y1 y2 y3 y4 y5 y6)) ∧ (∀ y0 y1 y2 y3 y4 y5 y6 y7, LeO (spec_l9Put.j1 k y0 y1 y2 y3 y4 y5 y6 y7) (spec_l9Put.j1 (k + 1) y0 y1 y2 y3 y4 y5 y6 y7))
 | 0 => ⟨fun _ _ _ _ _ _ _ r h => by simp [spec_l9Put.l0] at h, fun _ _ _ _ _ _ _ _ r h => by simp [spec_l9Put.j1] at h⟩
 | k + 1 => by
  obtain ⟨ih0, ih1⟩ := spec_l9Put.mono_l k;refine ⟨?_, ?_⟩;intro y0 y1 y2 y3 y4 y5 y6; unfold spec_l9Put.l0; rotate_left
  intro y0 y1 y2 y3 y4 y5 y6 y7; unfold spec_l9Put.j1; rotate_left
  all_goals repeat' first
   | (with_reducible exact ih0 _ _ _ _ _ _ _)
   | (with_reducible exact ih1 _ _ _ _ _ _ _ _)
   | (with_reducible exact spec_l9Less.mono _ _ _ _ _ _ _)
   | (with_reducible exact LeO.refl _)
   | (with_reducible exact LeO.none _)
   | (with_reducible refine LeO.ite ?_ ?_)
   | (with_reducible refine LeO.bind ?_ (fun _ => ?_))
   | exact LeO.none _
   | refine LeO.ite ?_ ?_
   | refine LeO.bind ?_ (fun _ => ?_)
theorem spec_l9Put.mono : ∀ a0 a1 a2 a3 a4 a5 k, LeO (spec_l9Put.f k a0 a1 a2 a3 a4 a5) (spec_l9Put.f (k + 1) a0 a1 a2 a3 a4 a5) := by
 intro a0 a1 a2 a3 a4 a5 k;obtain ⟨ih0, ih1⟩ := spec_l9Put.mono_l k;unfold spec_l9Put.f
 repeat' first
   | (with_reducible exact ih0 _ _ _ _ _ _ _)
   | (with_reducible exact ih1 _ _ _ _ _ _ _ _)
   | (with_reducible exact spec_l9Less.mono _ _ _ _ _ _ _)
   | (with_reducible exact LeO.refl _)
   | (with_reducible exact LeO.none _)
   | (with_reducible refine LeO.ite ?_ ?_)
   | (with_reducible refine LeO.bind ?_ (fun _ => ?_))
   | exact LeO.none _
   | refine LeO.ite ?_ ?_
   | refine LeO.bind ?_ (fun _ => ?_)
def spec_l9Put.T2 : Bool × List (List Nat × List Nat) := (true, [([], []), ([], []), ([1], [1]), ([2], [2]), ([0, 3], [0, 3]), ([4], [4]), ([5], [5]), ([6, 5], [5, 6]), ([5], [5]), ([7, 8, 5], [5, 7, 8]), ([9, 5], [5, 9]), ([5], [5]), ([11, 5], [5, 11]), ([5], [5]), ([13, 5], [5, 13]), ([10, 12, 14, 5, 5], [5, 10, 12, 14]), ([5, 15], [5, 15])])
def spec_l9Put.B2 : List Nat := [0, 0, 2, 6, 15, 31, 63, 127, 63, 511, 1023, 63, 2111, 63, 8255, 32767, 65535]
theorem spec_l9Put.tab2 : rtab .any (opsOf Try.f27 2) = spec_l9Put.T2 := by kernel_rfl
theorem spec_l9Put.bits2 : waitsOk spec_l9Put.T2.2 spec_l9Put.B2 = true := by kernel_rfl
def spec_l9Put.T6 : Bool × List (List Nat × List Nat) := (true, [([], []), ([], []), ([1], [1]), ([], []), ([2, 3], [2, 3]), ([0, 4], [0, 4]), ([], []), ([6], [6]), ([5, 7, 5], [5, 7]), ([], []), ([9], [9]), ([], []), ([10, 11], [10, 11]), ([8, 12, 8], [8, 12]), ([0, 1, 2, 3, 4, 5, 6, 7, 8, 9, 10, 11, 12, 13], []), ([14, 13, 13, 0, 1, 2, 3, 4, 5, 6, 7, 8, 9, 10, 11, 12, 13], [13, 14])])
def spec_l9Put.B6 : List Nat := [0, 0, 2, 0, 14, 31, 0, 64, 255, 0, 512, 0, 3584, 8191, 16383, 32767]
theorem spec_l9Put.tab6 : rtab .any (opsOf Try.f27 6) = spec_l9Put.T6 := by kernel_rfl
theorem spec_l9Put.bits6 : waitsOk spec_l9Put.T6.2 spec_l9Put.B6 = true := by kernel_rfl
set_option maxHeartbeats 8000000 in
set_option maxRecDepth 100000 in
theorem spec_l9Put.calls (k : Nat) (a0_0 : Int) (A0_1 : Option Addr) (c0_1 : Nat) (l0_1 : List (S38)) (a1_0 : Int) (a1_1 : ByteArray) (a1_2 : Int) (a1_3 : ByteArray) (r1 : Int) (r2 : List (S38)) (w : World) (hr0_1 : Kd.C k38 w A0_1 l0_1.length l0_1) (hc0_1 : l0_1.length ≤ c0_1) (h : spec_l9Put.f k a0_0 l0_1 a1_0 a1_1 a1_2 a1_3 = some (r1, r2)) :
  Calls Try.prog 27 #[.agg #[.int .i64 a0_0, .slice A0_1 l0_1.length c0_1], .agg #[.int .i64 a1_0, .string a1_1, .int .i64 a1_2, .string a1_3]] w fun e w' => ∃ v1_ : Value, e = .returned (.agg #[.int .i64 r1, v1_]) ∧ Kd.R k38 38 w' w.heap.size (fun _ => True) v1_ r2 ∧ Below w.heap.size w w' := by
 have hu25 := Try.underlying25;have hu38 := Try.underlying38;have HR0_1 := Aside0.mk hr0_1;have HC0_1 := Aside0.mk hc0_1;clear hr0_1 hc0_1;have HB := Aside0.mk (Below.refl w.heap.size w);have H : (spec_l9Put.l0 k 0 a0_0 l0_1 a1_0 a1_1 a1_2 a1_3) = some (r1, r2) := h;clear h;have H' := Aside0.mk H;clear H
 go_enter Try.func27, Try.ntmps27
 go_wp2_with (first | ((with_reducible refine gate_dst (N := 2) rfl ?_); refine box_event ?hg (N := 2) ?hd (cs := #[.int .i64 a0_0, .slice A0_1 l0_1.length c0_1]) (t := 25) ?hr ?_; (case hd => rfl); (case hg => rfl); (case hr => first | (go_simp; done) | (go_simp; rfl)); intro gb231 hg w3 hbox hb; have BK231 := Aside0.mk (hbox); have GW231 := gw HB hg; have GE231 := gw HB hg; replace HB := hbb HB hb; clear hb hbox hg) | ((with_reducible refine gate_dst (N := 3) rfl ?_); refine box_event ?hg (N := 3) ?hd (cs := #[.int .i64 a1_0, .string a1_1, .int .i64 a1_2, .string a1_3]) (t := 38) ?hr ?_; (case hd => rfl); (case hg => rfl); (case hr => first | (go_simp; done) | (go_simp; rfl)); intro gb232 hg w4 hbox hb; have BK232 := Aside0.mk (hbox); have GW232 := gw HB hg; have GE232 := gw HB hg; have NB231_232 := nl BK231 hg; have NB232_231 := ng BK231 hg; replace BK231 := kb BK231 hb; replace HB := hbb HB hb; clear hb hbox hg) | ((with_reducible refine gate_dst (N := 4) rfl ?_); refine box_event ?hg (N := 4) ?hd (cs := #[.int .i64 0, .slice none 0 0]) (t := 25) ?hr ?_; (case hd => rfl); (case hg => rfl); (case hr => first | (go_simp; done) | (go_simp; rfl)); intro gb233 hg w5 hbox hb; have BK233 := Aside0.mk (hbox); have GW233 := gw HB hg; have GE233 := gw HB hg; have NB231_233 := nl BK231 hg; have NB233_231 := ng BK231 hg; have NB232_233 := nl BK232 hg; have NB233_232 := ng BK232 hg; replace BK231 := kb BK231 hb; replace BK232 := kb BK232 hb; replace HB := hbb HB hb; clear hb hbox hg))
 go_loopg [5] k (fun kq v5 w' => ∃ (x5_1 : Int), v5 = .int .i64 x5_1 ∧ Aside0 (spec_l9Put.l0 kq x5_1 a0_0 l0_1 a1_0 a1_1 a1_2 a1_3 = some (r1, r2)) ∧ Aside0 (kq ≤ k) ∧ Aside0 (w'.heap[gb231]? = some (.cells #[.int .i64 a0_0, (.slice A0_1 l0_1.length c0_1)] 25 (0, 0))) ∧ Aside0 (w'.heap[gb232]? = some (.cells #[.int .i64 a1_0, .string a1_1, .int .i64 a1_2, .string a1_3] 38 (0, 0))) ∧ Aside0 (w'.heap[gb233]? = some (.cells #[.int .i64 0, (.slice none 0 0)] 25 (0, 0))) ∧ Aside0 (Below w.heap.size w w'))
 case atStart => exact ⟨(0), (by first | rfl | (simp; done) | (simp [*]; done)), H', ⟨Nat.le_refl _⟩, ⟨bl BK231.out⟩, ⟨bl BK232.out⟩, ⟨bl BK233.out⟩, ⟨by exact bb HB.out⟩⟩
 case round =>
  clear H';try clear c2
  try clear p2
  obtain ⟨x5_1, rfl, HA, HK1, BK231, BK232, BK233, HB⟩ := hrel
  cases gk with
  | zero => exact absurd HA.out (by simp [spec_l9Put.l0])
  | succ k1 =>
   have H := HA.out;clear HA;simp only [spec_l9Put.l0] at H;have HC6 := Aside0.mk H;clear H
   go_upto_region 2 with (fail)
   go_cut [23] (fun v23 wc => ∃ (kq : Nat) (x23_5 : Bool), v23 = .bool x23_5 ∧ Aside0 (spec_l9Put.j1 kq x5_1 x23_5 a0_0 l0_1 a1_0 a1_1 a1_2 a1_3 = some (r1, r2)) ∧ Aside0 (kq ≤ k1) ∧ Aside0 (wc.heap[gb231]? = some (.cells #[.int .i64 a0_0, (.slice A0_1 l0_1.length c0_1)] 25 (0, 0))) ∧ Aside0 (wc.heap[gb232]? = some (.cells #[.int .i64 a1_0, .string a1_1, .int .i64 a1_2, .string a1_3] 38 (0, 0))) ∧ Aside0 (wc.heap[gb233]? = some (.cells #[.int .i64 0, (.slice none 0 0)] 25 (0, 0))) ∧ Aside0 (Below w.heap.size w wc))
   case first =>
    have H := HC6.out;clear HC6
    by_cases c7 : x5_1 < (l0_1.length : Int)
    ·rw [if_pos c7] at H;have c7b0 : decide (x5_1 < (l0_1.length : Int)) = true := decide_eq_true c7;clear c7
     (first | rw [c7b0] | (simp only [i64_w, i32_w]; rw [c7b0]) | skip)
     by_cases c8 : 0 ≤ x5_1
     ·rw [if_pos c8] at H;have c8b0 : decide (0 ≤ x5_1) = true := decide_eq_true c8;clear c8;replace H := Option.bind_eq_some_iff.mp H;obtain ⟨t235, A90, H⟩ := H;have A9 := Aside0.mk A90;clear A90;have H' := Aside0.mk H;clear H
      try go_wp2
      replace BK231 := Aside0.mk (blk_drew BK231.out);replace BK232 := Aside0.mk (blk_drew BK232.out);replace BK233 := Aside0.mk (blk_drew BK233.out);replace HB := Aside0.mk (below_drew1 HB.out);have p234 : 0 ≤ (x5_1 : Int) := of_decide_eq_true (by first | (with_reducible assumption) | assumption);have q234 : x5_1 < (l0_1.length : Int) := of_decide_eq_true (by first | (with_reducible assumption) | assumption);obtain ⟨ad234, e234, hx234_0, hx234_1, hx234_2, hx234_3⟩ := at_T38 HR0_1.out x5_1 p234 q234;have hw234_3 := hx234_3;have hw234_2 := hx234_2;have hw234_1 := hx234_1;have hw234_0 := hx234_0
      cases e234
      replace hx234_0 := (HB.out.cell (World.block_lt_of_cell? w _ hx234_0)).trans hx234_0;replace hx234_1 := (HB.out.cell (World.block_lt_of_cell? w _ hx234_1)).trans hx234_1;replace hx234_2 := (HB.out.cell (World.block_lt_of_cell? w _ hx234_2)).trans hx234_2;replace hx234_3 := (HB.out.cell (World.block_lt_of_cell? w _ hx234_3)).trans hx234_3;replace p234 := eq_true p234;replace q234 := eq_true q234;refine start_ (n := 17) (S := fun w' => w'.cell? ⟨gb231, 0, none⟩ = some (.int .i64 a0_0) ∧ w'.cell? ⟨gb231, 1, none⟩ = some (.slice (some ad234) l0_1.length c0_1) ∧ w'.cell? ⟨gb232, 0, none⟩ = some (.int .i64 a1_0) ∧ w'.cell? ⟨gb232, 1, none⟩ = some (.string a1_1) ∧ w'.cell? ⟨gb232, 2, none⟩ = some (.int .i64 a1_2) ∧ w'.cell? ⟨gb232, 3, none⟩ = some (.string a1_3) ∧ w'.cell? (ad234.add ((x5_1).toNat * 4)) = some (.int .i64 ((rd_T38 l0_1 x5_1).f0)) ∧ w'.cell? ⟨(ad234.add ((x5_1).toNat * 4)).block, (ad234.add ((x5_1).toNat * 4)).off + 1, none⟩ = some (.string ((rd_T38 l0_1 x5_1).f1)) ∧ w'.cell? ⟨(ad234.add ((x5_1).toNat * 4)).block, (ad234.add ((x5_1).toNat * 4)).off + 2, none⟩ = some (.int .i64 ((rd_T38 l0_1 x5_1).f2)) ∧ w'.cell? ⟨(ad234.add ((x5_1).toNat * 4)).block, (ad234.add ((x5_1).toNat * 4)).off + 3, none⟩ = some (.string ((rd_T38 l0_1 x5_1).f3))) (ds := []) #[ff,ff,ff,ff,ff,ff,ff,ff,ff,ff,ff,ff,ff,ff,ff,ff,ff] (by kernel_rfl) rfl rfl ⟨(blk_cell BK231.out 0).trans rfl, (blk_cell BK231.out 1).trans rfl, (blk_cell BK232.out 0).trans rfl, (blk_cell BK232.out 1).trans rfl, (blk_cell BK232.out 2).trans rfl, (blk_cell BK232.out 3).trans rfl, ((HB.out.cell (World.block_lt_of_cell? w _ hw234_0)).trans hw234_0), ((HB.out.cell (World.block_lt_of_cell? w _ hw234_1)).trans hw234_1), ((HB.out.cell (World.block_lt_of_cell? w _ hw234_2)).trans hw234_2), ((HB.out.cell (World.block_lt_of_cell? w _ hw234_3)).trans hw234_3)⟩ (fun hHeld => ?_); refine with_tabW spec_l9Put.tab2 spec_l9Put.bits2 (fun HT_ HW_ => ?_)
      generalize wr.drew = w10 at BK231 BK232 BK233 HB hx234_0 hx234_1 hx234_2 hx234_3 hHeld ⊢;refine pure_ (i := 0) (N := some 7) (v := ?_) (a' := ?_) #[tt,ff,ff,ff,ff,ff,ff,ff,ff,ff,ff,ff,ff,ff,ff,ff,ff] rfl rfl (any_of HT_.out (by kernel_rfl)) (fun _ _ _ h => h) (Or.inl ⟨by rfl, ?_⟩) ?_ ?_;rotate_left
      ·intro w';go_simp;with_reducible rfl
      rotate_left;·simp only [Act.put, sB, s0, s1, i64_w, i32_w];rfl
      refine pure_ (i := 1) (N := some 8) (v := ?_) (a' := ?_) #[tt,tt,ff,ff,ff,ff,ff,ff,ff,ff,ff,ff,ff,ff,ff,ff,ff] rfl rfl (any_of HT_.out (by kernel_rfl)) (fun _ _ _ h => h) (Or.inl ⟨by rfl, ?_⟩) ?_ ?_;rotate_left
      ·intro w';go_simp;with_reducible rfl
      rotate_left;·simp only [Act.put, sB, s0, s1, i64_w, i32_w];rfl
      refine take_ (i := 2) (N := some 9) (v := ?_) (a' := ?_) #[tt,tt,tt,ff,ff,ff,ff,ff,ff,ff,ff,ff,ff,ff,ff,ff,ff] rfl rfl (take_ofW HT_.out HW_.out (by kernel_rfl)) (fun _ _ _ h => h) (Or.inl ⟨by rfl, ?_⟩) hHeld ?_ ?_;rotate_left
      ·rintro w' ⟨s0, s1, s2, s3, s4, s5, s6, s7, s8, s9⟩;go_simp;with_reducible rfl
      rotate_left;·simp only [Act.put, sB, s0, s1, i64_w, i32_w];rfl
      refine pure_ (i := 3) (N := some 10) (v := ?_) (a' := ?_) #[tt,tt,tt,tt,ff,ff,ff,ff,ff,ff,ff,ff,ff,ff,ff,ff,ff] rfl rfl (any_of HT_.out (by kernel_rfl)) (fun _ _ _ h => h) (Or.inl ⟨by rfl, ?_⟩) ?_ ?_;rotate_left
      ·intro w';go_simp;with_reducible rfl
      rotate_left;·simp only [Act.put, sB, s0, s1, i64_w, i32_w];rfl
      refine pure_ (i := 4) (N := some 11) (v := ?_) (a' := ?_) #[tt,tt,tt,tt,tt,ff,ff,ff,ff,ff,ff,ff,ff,ff,ff,ff,ff] rfl rfl (any_of HT_.out (by kernel_rfl)) (fun _ _ _ h => h) (Or.inl ⟨by rfl, ?_⟩) ?_ ?_;rotate_left
      ·intro w';go_simp;with_reducible rfl
      rotate_left;·simp only [Act.put, sB, s0, s1, i64_w, i32_w];rfl
      refine pure_ (i := 5) (N := some 12) (v := ?_) (a' := ?_) #[tt,tt,tt,tt,tt,tt,ff,ff,ff,ff,ff,ff,ff,ff,ff,ff,ff] rfl rfl (any_of HT_.out (by kernel_rfl)) (fun _ _ _ h => h) (Or.inl ⟨by rfl, ?_⟩) ?_ ?_;rotate_left
      ·intro w';go_simp;with_reducible rfl
      rotate_left;·simp only [Act.put, sB, s0, s1, i64_w, i32_w];rfl
      refine pure_ (i := 6) (N := some 13) (v := ?_) (a' := ?_) #[tt,tt,tt,tt,tt,tt,tt,ff,ff,ff,ff,ff,ff,ff,ff,ff,ff] rfl rfl (any_of HT_.out (by kernel_rfl)) (fun _ _ _ h => h) (Or.inl ⟨by rfl, ?_⟩) ?_ ?_;rotate_left
      ·intro w';go_simp;with_reducible rfl
      rotate_left;·simp only [Act.put, sB, s0, s1, i64_w, i32_w];rfl
      refine pure_ (i := 8) (N := some 15) (v := ?_) (a' := ?_) #[tt,tt,tt,tt,tt,tt,tt,ff,tt,ff,ff,ff,ff,ff,ff,ff,ff] rfl rfl (any_of HT_.out (by kernel_rfl)) (fun _ _ _ h => h) (Or.inl ⟨by rfl, ?_⟩) ?_ ?_;rotate_left
      ·intro w';go_simp;with_reducible rfl
      rotate_left;·simp only [Act.put, sB, s0, s1, i64_w, i32_w];rfl
      refine pure_ (i := 11) (N := some 18) (v := ?_) (a' := ?_) #[tt,tt,tt,tt,tt,tt,tt,ff,tt,ff,ff,tt,ff,ff,ff,ff,ff] rfl rfl (any_of HT_.out (by kernel_rfl)) (fun _ _ _ h => h) (Or.inl ⟨by rfl, ?_⟩) ?_ ?_;rotate_left
      ·intro w';go_simp;with_reducible rfl
      rotate_left;·simp only [Act.put, sB, s0, s1, i64_w, i32_w];rfl
      refine pure_ (i := 13) (N := some 20) (v := ?_) (a' := ?_) #[tt,tt,tt,tt,tt,tt,tt,ff,tt,ff,ff,tt,ff,tt,ff,ff,ff] rfl rfl (any_of HT_.out (by kernel_rfl)) (fun _ _ _ h => h) (Or.inl ⟨by rfl, ?_⟩) ?_ ?_;rotate_left
      ·intro w';go_simp;with_reducible rfl
      rotate_left;·simp only [Act.put, sB, s0, s1, i64_w, i32_w];rfl
      refine take_ (i := 7) (N := some 14) (v := ?_) (a' := ?_) #[tt,tt,tt,tt,tt,tt,tt,tt,tt,ff,ff,tt,ff,tt,ff,ff,ff] rfl rfl (take_ofW HT_.out HW_.out (by kernel_rfl)) (fun _ _ _ h => h) (Or.inl ⟨by rfl, ?_⟩) hHeld ?_ ?_;rotate_left
      ·rintro w' ⟨s0, s1, s2, s3, s4, s5, s6, s7, s8, s9⟩;go_simp;with_reducible rfl
      rotate_left;·simp only [Act.put, sB, s0, s1, i64_w, i32_w];rfl
      refine pure_ (i := 9) (N := some 16) (v := ?_) (a' := ?_) #[tt,tt,tt,tt,tt,tt,tt,tt,tt,tt,ff,tt,ff,tt,ff,ff,ff] rfl rfl (any_of HT_.out (by kernel_rfl)) (fun _ _ _ h => h) (Or.inl ⟨by rfl, ?_⟩) ?_ ?_;rotate_left
      ·intro w';go_simp;with_reducible rfl
      rotate_left;·simp only [Act.put, sB, s0, s1, i64_w, i32_w];rfl
      refine take_ (i := 10) (N := some 17) (v := ?_) (a' := ?_) #[tt,tt,tt,tt,tt,tt,tt,tt,tt,tt,tt,tt,ff,tt,ff,ff,ff] rfl rfl (take_ofW HT_.out HW_.out (by kernel_rfl)) (fun _ _ _ h => h) (Or.inl ⟨by rfl, ?_⟩) hHeld ?_ ?_;rotate_left
      ·rintro w' ⟨s0, s1, s2, s3, s4, s5, s6, s7, s8, s9⟩;go_simp;with_reducible rfl
      rotate_left;·simp only [Act.put, sB, s0, s1, i64_w, i32_w];rfl
      refine take_ (i := 12) (N := some 19) (v := ?_) (a' := ?_) #[tt,tt,tt,tt,tt,tt,tt,tt,tt,tt,tt,tt,tt,tt,ff,ff,ff] rfl rfl (take_ofW HT_.out HW_.out (by kernel_rfl)) (fun _ _ _ h => h) (Or.inl ⟨by rfl, ?_⟩) hHeld ?_ ?_;rotate_left
      ·rintro w' ⟨s0, s1, s2, s3, s4, s5, s6, s7, s8, s9⟩;go_simp;with_reducible rfl
      rotate_left;·simp only [Act.put, sB, s0, s1, i64_w, i32_w];rfl
      refine take_ (i := 14) (N := some 21) (v := ?_) (a' := ?_) #[tt,tt,tt,tt,tt,tt,tt,tt,tt,tt,tt,tt,tt,tt,tt,ff,ff] rfl rfl (take_ofW HT_.out HW_.out (by kernel_rfl)) (fun _ _ _ h => h) (Or.inl ⟨by rfl, ?_⟩) hHeld ?_ ?_;rotate_left
      ·rintro w' ⟨s0, s1, s2, s3, s4, s5, s6, s7, s8, s9⟩;go_simp;with_reducible rfl
      rotate_left;·simp only [Act.put, sB, s0, s1, i64_w, i32_w];rfl
      refine one_ (i := 15) (N := some 22) #[tt,tt,tt,tt,tt,tt,tt,tt,tt,tt,tt,tt,tt,tt,tt,tt,ff] rfl rfl (one_of HT_.out (by kernel_rfl)) (by decide) (fun K hK => ?_);refine goes_ Try.func29 (by kernel_rfl) rfl #[.agg #[.int .i64 ((rd_T38 l0_1 x5_1).f0), .string ((rd_T38 l0_1 x5_1).f1), .int .i64 ((rd_T38 l0_1 x5_1).f2), .string ((rd_T38 l0_1 x5_1).f3)], .int .i64 a1_0, .string a1_1] (by rfl) rfl rfl (by (try simp only [List.map_toArray, List.map_cons, List.map_nil]); first | done | rfl | (simp only [List.length_drop, List.length_take]; rfl)) ?_
      with_reducible refine (spec_l9Less.calls k1 ((rd_T38 l0_1 x5_1).f0) ((rd_T38 l0_1 x5_1).f1) ((rd_T38 l0_1 x5_1).f2) ((rd_T38 l0_1 x5_1).f3) a1_0 a1_1 t235 _ A9.out).mono ?_
      rintro e w11 ⟨rfl, hb⟩;refine ⟨_, rfl, ?_⟩;replace BK231 := kb BK231 hb;replace BK232 := kb BK232 hb;replace BK233 := kb BK233 hb;replace HB := hbb HB hb
      (try clear hb)
      (try clear hb2)
      (try clear hk)
      (try clear hi)
      refine hK.out _ _ ⟨(blk_cell BK231.out 0).trans rfl, (blk_cell BK231.out 1).trans rfl, (blk_cell BK232.out 0).trans rfl, (blk_cell BK232.out 1).trans rfl, (blk_cell BK232.out 2).trans rfl, (blk_cell BK232.out 3).trans rfl, ((HB.out.cell (World.block_lt_of_cell? w _ hw234_0)).trans hw234_0), ((HB.out.cell (World.block_lt_of_cell? w _ hw234_1)).trans hw234_1), ((HB.out.cell (World.block_lt_of_cell? w _ hw234_2)).trans hw234_2), ((HB.out.cell (World.block_lt_of_cell? w _ hw234_3)).trans hw234_3)⟩ (fun hHeld => ?_);clear hK K;refine norm_ (a' := ?_) ?_ ?_;rotate_left
      ·show Act.put _ (some 22) _ = _;simp only [Act.put, sB, s0, s1, i64_w, i32_w];rfl
      refine pure_ (i := 16) (N := some 23) (v := ?_) (a' := ?_) #[tt,tt,tt,tt,tt,tt,tt,tt,tt,tt,tt,tt,tt,tt,tt,tt,tt] rfl rfl (any_of HT_.out (by kernel_rfl)) (fun _ _ _ h => h) (Or.inl ⟨by rfl, ?_⟩) ?_ ?_;rotate_left
      ·intro w';go_simp;with_reducible rfl
      rotate_left;·simp only [Act.put, sB, s0, s1, i64_w, i32_w];rfl
      refine done_ (done_of HT_.out (by kernel_rfl)) ?_
      try go_wp2
      go_meet
      case rel => exact ⟨_, (t235), (by first | rfl | (simp; done) | (simp [*]; done)), H', ⟨by have := HK1.out; first | omega | exact Nat.le_refl _⟩, ⟨bl BK231.out⟩, ⟨bl BK232.out⟩, ⟨bl BK233.out⟩, ⟨by exact bb HB.out⟩⟩
     rw [if_neg c8] at H;exact absurd H (by simp)
    rw [if_neg c7] at H;have c7b0 : decide (x5_1 < (l0_1.length : Int)) = false := decide_eq_false c7;clear c7
    (first | rw [c7b0] | (simp only [i64_w, i32_w]; rw [c7b0]) | skip)
    have H' := Aside0.mk H;clear H
    try go_wp2
    replace BK231 := Aside0.mk (blk_drew BK231.out);replace BK232 := Aside0.mk (blk_drew BK232.out);replace BK233 := Aside0.mk (blk_drew BK233.out);replace HB := Aside0.mk (below_drew1 HB.out);refine start_ (n := 17) (S := fun w' => w'.cell? ⟨gb231, 0, none⟩ = some (.int .i64 a0_0) ∧ w'.cell? ⟨gb231, 1, none⟩ = some (.slice A0_1 l0_1.length c0_1)) (ds := []) #[ff,ff,ff,ff,ff,ff,ff,ff,ff,ff,ff,ff,ff,ff,ff,ff,ff] (by kernel_rfl) rfl rfl ⟨(blk_cell BK231.out 0).trans rfl, (blk_cell BK231.out 1).trans rfl⟩ (fun hHeld => ?_); refine with_tabW spec_l9Put.tab2 spec_l9Put.bits2 (fun HT_ HW_ => ?_)
    generalize wr.drew = w12 at BK231 BK232 BK233 HB hHeld ⊢;refine pure_ (i := 0) (N := some 7) (v := ?_) (a' := ?_) #[tt,ff,ff,ff,ff,ff,ff,ff,ff,ff,ff,ff,ff,ff,ff,ff,ff] rfl rfl (any_of HT_.out (by kernel_rfl)) (fun _ _ _ h => h) (Or.inl ⟨by rfl, ?_⟩) ?_ ?_;rotate_left
    ·intro w';go_simp;with_reducible rfl
    rotate_left;·simp only [Act.put, sB, s0, s1, i64_w, i32_w];rfl
    refine pure_ (i := 1) (N := some 8) (v := ?_) (a' := ?_) #[tt,tt,ff,ff,ff,ff,ff,ff,ff,ff,ff,ff,ff,ff,ff,ff,ff] rfl rfl (any_of HT_.out (by kernel_rfl)) (fun _ _ _ h => h) (Or.inl ⟨by rfl, ?_⟩) ?_ ?_;rotate_left
    ·intro w';go_simp;with_reducible rfl
    rotate_left;·simp only [Act.put, sB, s0, s1, i64_w, i32_w];rfl
    refine take_ (i := 2) (N := some 9) (v := ?_) (a' := ?_) #[tt,tt,tt,ff,ff,ff,ff,ff,ff,ff,ff,ff,ff,ff,ff,ff,ff] rfl rfl (take_ofW HT_.out HW_.out (by kernel_rfl)) (fun _ _ _ h => h) (Or.inl ⟨by rfl, ?_⟩) hHeld ?_ ?_;rotate_left
    ·rintro w' ⟨s0, s1⟩;go_simp;with_reducible rfl
    rotate_left;·simp only [Act.put, sB, s0, s1, i64_w, i32_w];rfl
    refine pure_ (i := 3) (N := some 10) (v := ?_) (a' := ?_) #[tt,tt,tt,tt,ff,ff,ff,ff,ff,ff,ff,ff,ff,ff,ff,ff,ff] rfl rfl (any_of HT_.out (by kernel_rfl)) (fun _ _ _ h => h) (Or.inl ⟨by rfl, ?_⟩) ?_ ?_;rotate_left
    ·intro w';go_simp;with_reducible rfl
    rotate_left;·simp only [Act.put, sB, s0, s1, i64_w, i32_w];rfl
    refine pure_ (i := 4) (N := some 11) (v := ?_) (a' := ?_) #[tt,tt,tt,tt,tt,ff,ff,ff,ff,ff,ff,ff,ff,ff,ff,ff,ff] rfl rfl (any_of HT_.out (by kernel_rfl)) (fun _ _ _ h => h) (Or.inl ⟨by rfl, ?_⟩) ?_ ?_;rotate_left
    ·intro w';go_simp;with_reducible rfl
    rotate_left;·simp only [Act.put, sB, s0, s1, i64_w, i32_w];rfl
    refine pure_ (i := 5) (N := some 12) (v := ?_) (a' := ?_) #[tt,tt,tt,tt,tt,tt,ff,ff,ff,ff,ff,ff,ff,ff,ff,ff,ff] rfl rfl (any_of HT_.out (by kernel_rfl)) (fun _ _ _ h => h) (Or.inl ⟨by rfl, ?_⟩) ?_ ?_;rotate_left
    ·intro w';go_simp;with_reducible rfl
    rotate_left;·simp only [Act.put, sB, s0, s1, i64_w, i32_w];rfl
    refine pure_ (i := 6) (N := some 13) (v := undef) (a' := ?_) #[tt,tt,tt,tt,tt,tt,tt,ff,ff,ff,ff,ff,ff,ff,ff,ff,ff] rfl rfl (any_of HT_.out (by kernel_rfl)) (fun _ _ _ h => h) (Or.inr ⟨by rfl, rfl⟩) ?_ ?_;rotate_left
    ·simp only [Act.put, sB, s0, s1, i64_w, i32_w];rfl
    refine pure_ (i := 7) (N := some 14) (v := undef) (a' := ?_) #[tt,tt,tt,tt,tt,tt,tt,tt,ff,ff,ff,ff,ff,ff,ff,ff,ff] rfl rfl (any_of HT_.out (by kernel_rfl)) (fun _ _ _ h => h) (Or.inr ⟨by rfl, rfl⟩) ?_ ?_;rotate_left
    ·simp only [Act.put, sB, s0, s1, i64_w, i32_w];rfl
    refine pure_ (i := 8) (N := some 15) (v := undef) (a' := ?_) #[tt,tt,tt,tt,tt,tt,tt,tt,tt,ff,ff,ff,ff,ff,ff,ff,ff] rfl rfl (any_of HT_.out (by kernel_rfl)) (fun _ _ _ h => h) (Or.inr ⟨by rfl, rfl⟩) ?_ ?_;rotate_left
    ·simp only [Act.put, sB, s0, s1, i64_w, i32_w];rfl
    refine pure_ (i := 9) (N := some 16) (v := undef) (a' := ?_) #[tt,tt,tt,tt,tt,tt,tt,tt,tt,tt,ff,ff,ff,ff,ff,ff,ff] rfl rfl (any_of HT_.out (by kernel_rfl)) (fun _ _ _ h => h) (Or.inr ⟨by rfl, rfl⟩) ?_ ?_;rotate_left
    ·simp only [Act.put, sB, s0, s1, i64_w, i32_w];rfl
    refine pure_ (i := 10) (N := some 17) (v := undef) (a' := ?_) #[tt,tt,tt,tt,tt,tt,tt,tt,tt,tt,tt,ff,ff,ff,ff,ff,ff] rfl rfl (any_of HT_.out (by kernel_rfl)) (fun _ _ _ h => h) (Or.inr ⟨by rfl, rfl⟩) ?_ ?_;rotate_left
    ·simp only [Act.put, sB, s0, s1, i64_w, i32_w];rfl
    refine pure_ (i := 11) (N := some 18) (v := undef) (a' := ?_) #[tt,tt,tt,tt,tt,tt,tt,tt,tt,tt,tt,tt,ff,ff,ff,ff,ff] rfl rfl (any_of HT_.out (by kernel_rfl)) (fun _ _ _ h => h) (Or.inr ⟨by rfl, rfl⟩) ?_ ?_;rotate_left
    ·simp only [Act.put, sB, s0, s1, i64_w, i32_w];rfl
    refine pure_ (i := 12) (N := some 19) (v := undef) (a' := ?_) #[tt,tt,tt,tt,tt,tt,tt,tt,tt,tt,tt,tt,tt,ff,ff,ff,ff] rfl rfl (any_of HT_.out (by kernel_rfl)) (fun _ _ _ h => h) (Or.inr ⟨by rfl, rfl⟩) ?_ ?_;rotate_left
    ·simp only [Act.put, sB, s0, s1, i64_w, i32_w];rfl
    refine pure_ (i := 13) (N := some 20) (v := undef) (a' := ?_) #[tt,tt,tt,tt,tt,tt,tt,tt,tt,tt,tt,tt,tt,tt,ff,ff,ff] rfl rfl (any_of HT_.out (by kernel_rfl)) (fun _ _ _ h => h) (Or.inr ⟨by rfl, rfl⟩) ?_ ?_;rotate_left
    ·simp only [Act.put, sB, s0, s1, i64_w, i32_w];rfl
    refine pure_ (i := 14) (N := some 21) (v := undef) (a' := ?_) #[tt,tt,tt,tt,tt,tt,tt,tt,tt,tt,tt,tt,tt,tt,tt,ff,ff] rfl rfl (any_of HT_.out (by kernel_rfl)) (fun _ _ _ h => h) (Or.inr ⟨by rfl, rfl⟩) ?_ ?_;rotate_left
    ·simp only [Act.put, sB, s0, s1, i64_w, i32_w];rfl
    refine pure_ (i := 15) (N := some 22) (v := undef) (a' := ?_) #[tt,tt,tt,tt,tt,tt,tt,tt,tt,tt,tt,tt,tt,tt,tt,tt,ff] rfl rfl (any_of HT_.out (by kernel_rfl)) (fun _ _ _ h => h) (Or.inr ⟨by rfl, rfl⟩) ?_ ?_;rotate_left
    ·simp only [Act.put, sB, s0, s1, i64_w, i32_w];rfl
    refine pure_ (i := 16) (N := some 23) (v := ?_) (a' := ?_) #[tt,tt,tt,tt,tt,tt,tt,tt,tt,tt,tt,tt,tt,tt,tt,tt,tt] rfl rfl (any_of HT_.out (by kernel_rfl)) (fun _ _ _ h => h) (Or.inl ⟨by rfl, ?_⟩) ?_ ?_;rotate_left
    ·intro w';go_simp;with_reducible rfl
    rotate_left;·simp only [Act.put, sB, s0, s1, i64_w, i32_w];rfl
    refine done_ (done_of HT_.out (by kernel_rfl)) ?_
    try go_wp2
    go_meet
    case rel => exact ⟨_, (false), (by first | rfl | (simp; done) | (simp [*]; done)), H', ⟨by have := HK1.out; first | omega | exact Nat.le_refl _⟩, ⟨bl BK231.out⟩, ⟨bl BK232.out⟩, ⟨bl BK233.out⟩, ⟨by exact bb HB.out⟩⟩
   case rest =>
    clear HC6;try clear c2
    try clear p2
    try clear q2
    try clear hx2
    try clear c7
    try clear c7b0
    try clear c8
    try clear c8b0
    try clear hx234_0
    try clear hx234_1
    try clear hx234_2
    try clear hx234_3
    try clear p2
    try clear p234
    try clear q234
    obtain ⟨kq, x23_5, rfl, HA, HJ5, BK231, BK232, BK233, HB⟩ := hcut
    cases kq with
    | zero => exact absurd HA.out (by simp [spec_l9Put.j1])
    | succ kj5 =>
     have H := HA.out;clear HA;simp only [spec_l9Put.j1] at H
     by_cases c13 : x23_5 = true
     ·subst c13;rw [if_pos rfl] at H;have H' := Aside0.mk H;clear H;go_wp2
      go_roundg kj5
      case measure => have := HK1.out; have := HJ5.out; omega
      case rel => exact ⟨(wrap64 (x5_1 + 1)), (by first | rfl | (simp; done) | (simp [*]; done)), H', ⟨by have := HK1.out; have := HJ5.out; omega⟩, ⟨bl BK231.out⟩, ⟨bl BK232.out⟩, ⟨bl BK233.out⟩, ⟨by exact bb HB.out⟩⟩
     replace c13 := Bool.eq_false_iff.mpr c13;subst c13;rw [if_neg (show ¬ (false = true) by decide)] at H;obtain ⟨y237, hy237⟩ : ∃ y_ : List (S38), y_ = (([] : List (S38))) := ⟨_, rfl⟩;replace H : (if 0 ≤ x5_1 then (if x5_1 ≤ (l0_1.length : Int) then ((some (l0_1.take (x5_1 : Int).toNat : List (S38))).bind fun y240 => (if y237.length + y240.length < 2932031007402 then ((some (y237 ++ y240 : List (S38))).bind fun y244 => ((some (([(⟨a1_0, a1_1, wrap64 (a0_0 + 1), a1_3⟩ : S38)] : List (S38)) : List (S38))).bind fun y247 => (if y244.length + y247.length < 2932031007402 then ((some (y244 ++ y247 : List (S38))).bind fun y250 => ((some (l0_1.drop (x5_1 : Int).toNat : List (S38))).bind fun y253 => (if y250.length + y253.length < 2932031007402 then (some (wrap64 (a0_0 + 1), (y250 ++ y253))) else (none)))) else (none)))) else (none))) else (none)) else (none)) = some (r1, r2) := by first | (rw [hy237]; with_reducible exact H) | (have H2_ := (Option.bind_some _ _).symm.trans H; rw [hy237]; with_reducible exact H2_) | (have H2_ := (Option.bind_some _ _).symm.trans H; with_reducible exact H2_) | with_reducible exact H | (rw [hy237]; exact H) | exact H
     have Ny237 := Aside0.mk hy237;clear hy237
     by_cases c14 : 0 ≤ x5_1
     ·rw [if_pos c14] at H;have c14b0 := eq_true c14;have c14b1 : decide (0 ≤ x5_1) = true := decide_eq_true c14;clear c14
      by_cases c15 : x5_1 ≤ (l0_1.length : Int)
      ·rw [if_pos c15] at H;have c15b0 := eq_true c15;have c15b1 : decide (x5_1 ≤ (l0_1.length : Int)) = true := decide_eq_true c15;clear c15;obtain ⟨y240, hy240⟩ : ∃ y_ : List (S38), y_ = (l0_1.take (x5_1 : Int).toNat) := ⟨_, rfl⟩;replace H : (if y237.length + y240.length < 2932031007402 then ((some (y237 ++ y240 : List (S38))).bind fun y244 => ((some (([(⟨a1_0, a1_1, wrap64 (a0_0 + 1), a1_3⟩ : S38)] : List (S38)) : List (S38))).bind fun y247 => (if y244.length + y247.length < 2932031007402 then ((some (y244 ++ y247 : List (S38))).bind fun y250 => ((some (l0_1.drop (x5_1 : Int).toNat : List (S38))).bind fun y253 => (if y250.length + y253.length < 2932031007402 then (some (wrap64 (a0_0 + 1), (y250 ++ y253))) else (none)))) else (none)))) else (none)) = some (r1, r2) := by first | (rw [hy240]; with_reducible exact H) | (have H2_ := (Option.bind_some _ _).symm.trans H; rw [hy240]; with_reducible exact H2_) | (have H2_ := (Option.bind_some _ _).symm.trans H; with_reducible exact H2_) | with_reducible exact H | (rw [hy240]; exact H) | exact H
       have Ny240 := Aside0.mk hy240;clear hy240
       by_cases c16 : y237.length + y240.length < 2932031007402
       ·rw [if_pos c16] at H;have LMc16 := Aside0.mk c16;clear c16;obtain ⟨y244, hy244⟩ : ∃ y_ : List (S38), y_ = (y237 ++ y240) := ⟨_, rfl⟩;replace H : ((some (([(⟨a1_0, a1_1, wrap64 (a0_0 + 1), a1_3⟩ : S38)] : List (S38)) : List (S38))).bind fun y247 => (if y244.length + y247.length < 2932031007402 then ((some (y244 ++ y247 : List (S38))).bind fun y250 => ((some (l0_1.drop (x5_1 : Int).toNat : List (S38))).bind fun y253 => (if y250.length + y253.length < 2932031007402 then (some (wrap64 (a0_0 + 1), (y250 ++ y253))) else (none)))) else (none))) = some (r1, r2) := by first | (rw [hy244]; with_reducible exact H) | (have H2_ := (Option.bind_some _ _).symm.trans H; rw [hy244]; with_reducible exact H2_) | (have H2_ := (Option.bind_some _ _).symm.trans H; with_reducible exact H2_) | with_reducible exact H | (rw [hy244]; exact H) | exact H
        have Ny244 := Aside0.mk hy244;clear hy244;obtain ⟨y247, hy247⟩ : ∃ y_ : List (S38), y_ = (([(⟨a1_0, a1_1, wrap64 (a0_0 + 1), a1_3⟩ : S38)] : List (S38))) := ⟨_, rfl⟩;replace H : (if y244.length + y247.length < 2932031007402 then ((some (y244 ++ y247 : List (S38))).bind fun y250 => ((some (l0_1.drop (x5_1 : Int).toNat : List (S38))).bind fun y253 => (if y250.length + y253.length < 2932031007402 then (some (wrap64 (a0_0 + 1), (y250 ++ y253))) else (none)))) else (none)) = some (r1, r2) := by first | (rw [hy247]; with_reducible exact H) | (have H2_ := (Option.bind_some _ _).symm.trans H; rw [hy247]; with_reducible exact H2_) | (have H2_ := (Option.bind_some _ _).symm.trans H; with_reducible exact H2_) | with_reducible exact H | (rw [hy247]; exact H) | exact H
        have Ny247 := Aside0.mk hy247;clear hy247
        by_cases c17 : y244.length + y247.length < 2932031007402
        ·rw [if_pos c17] at H;have LMc17 := Aside0.mk c17;clear c17;obtain ⟨y250, hy250⟩ : ∃ y_ : List (S38), y_ = (y244 ++ y247) := ⟨_, rfl⟩;replace H : ((some (l0_1.drop (x5_1 : Int).toNat : List (S38))).bind fun y253 => (if y250.length + y253.length < 2932031007402 then (some (wrap64 (a0_0 + 1), (y250 ++ y253))) else (none))) = some (r1, r2) := by first | (rw [hy250]; with_reducible exact H) | (have H2_ := (Option.bind_some _ _).symm.trans H; rw [hy250]; with_reducible exact H2_) | (have H2_ := (Option.bind_some _ _).symm.trans H; with_reducible exact H2_) | with_reducible exact H | (rw [hy250]; exact H) | exact H
         have Ny250 := Aside0.mk hy250;clear hy250;have c18b0 := eq_true (of_decide_eq_true (by first | (with_reducible assumption) | assumption) : 0 ≤ x5_1);have c19b0 := eq_true (of_decide_eq_true (by first | (with_reducible assumption) | assumption) : x5_1 ≤ (l0_1.length : Int));obtain ⟨y253, hy253⟩ : ∃ y_ : List (S38), y_ = (l0_1.drop (x5_1 : Int).toNat) := ⟨_, rfl⟩;replace H : (if y250.length + y253.length < 2932031007402 then (some (wrap64 (a0_0 + 1), (y250 ++ y253))) else (none)) = some (r1, r2) := by first | (rw [hy253]; with_reducible exact H) | (have H2_ := (Option.bind_some _ _).symm.trans H; rw [hy253]; with_reducible exact H2_) | (have H2_ := (Option.bind_some _ _).symm.trans H; with_reducible exact H2_) | with_reducible exact H | (rw [hy253]; exact H) | exact H
         have Ny253 := Aside0.mk hy253;clear hy253
         by_cases c20 : y250.length + y253.length < 2932031007402
         ·rw [if_pos c20] at H;have LMc20 := Aside0.mk c20;clear c20;obtain ⟨y257, hy257⟩ : ∃ y_ : List (S38), y_ = (y250 ++ y253) := ⟨_, rfl⟩;replace H : (some (wrap64 (a0_0 + 1), y257)) = some (r1, r2) := by first | (rw [hy257]; with_reducible exact H) | (have H2_ := (Option.bind_some _ _).symm.trans H; rw [hy257]; with_reducible exact H2_) | (have H2_ := (Option.bind_some _ _).symm.trans H; with_reducible exact H2_) | with_reducible exact H | (rw [hy257]; exact H) | exact H
          have Ny257 := Aside0.mk hy257;clear hy257;simp only [Option.some.injEq, Prod.mk.injEq] at H;obtain ⟨rfl, rfl⟩ := H;have hnb21 := NB231_232.out;have hnc21 := NB232_231.out;have hnb22 := NB231_233.out;have hnc22 := NB233_231.out;obtain ⟨hcz23_0, hcz23_1, hfz23_0, hfz23_1⟩ := c2 BK231
          try go_wp2_with (first | ((with_reducible refine gate_dst (N := 6) rfl ?_); refine box_event ?hg (N := 6) ?hd (cs := #[.int .i64 0, .slice none 0 0]) (t := 25) ?hr ?_; (case hd => rfl); (case hg => rfl); (case hr => first | (go_simp; done) | (go_simp; rfl)); intro gb236 hg w24 hbox hb; have BK236 := Aside0.mk (hbox); have GW236 := gw HB hg; have GE236 := gw HB hg; have NB231_236 := nl BK231 hg; have NB236_231 := ng BK231 hg; have NB232_236 := nl BK232 hg; have NB236_232 := ng BK232 hg; have NB233_236 := nl BK233 hg; have NB236_233 := ng BK233 hg; replace BK231 := kb BK231 hb; replace BK232 := kb BK232 hb; replace BK233 := kb BK233 hb; replace HB := hbb HB hb; clear hb hbox hg; have hnb25 := NB236_231.out; have hnc25 := NB231_236.out; have hnb26 := NB236_232.out; have hnc26 := NB232_236.out; have hnb27 := NB236_233.out; have hnc27 := NB233_236.out; obtain ⟨hcz28_0, hcz28_1, hfz28_0, hfz28_1⟩ := c2 BK236; have hnb29 := NB232_233.out; have hnc29 := NB233_232.out; obtain ⟨hcz30_0, hcz30_1, hcz30_2, hcz30_3, hfz30_0, hfz30_1, hfz30_2, hfz30_3⟩ := c4 BK232))
          have n0_ : Aside0 ((((w24.setCell ⟨gb236, 0, none⟩ (.int .i64 (wrap64 (a0_0 + 1)))).setCell ⟨gb236, 1, none⟩ (.slice none 0 0)).setCell ⟨gb232, 2, none⟩ (.int .i64 (wrap64 (a0_0 + 1)))).heap[gb231]? = some (.cells #[.int .i64 a0_0, .slice A0_1 l0_1.length c0_1] 25 (0, 0))) := ⟨by (with_reducible repeat (first | refine blk_drewN ?_ _ | refine blk_drew ?_ | refine blk_alloc ?_ _)); refine blk_far ?_ NB231_232.out _; (with_reducible repeat (first | refine blk_drewN ?_ _ | refine blk_drew ?_ | refine blk_alloc ?_ _)); refine blk_far ?_ NB231_236.out _; (with_reducible repeat (first | refine blk_drewN ?_ _ | refine blk_drew ?_ | refine blk_alloc ?_ _)); refine blk_far ?_ NB231_236.out _; (with_reducible repeat (first | refine blk_drewN ?_ _ | refine blk_drew ?_ | refine blk_alloc ?_ _)); exact BK231.out⟩;have n1_ : Aside0 ((((w24.setCell ⟨gb236, 0, none⟩ (.int .i64 (wrap64 (a0_0 + 1)))).setCell ⟨gb236, 1, none⟩ (.slice none 0 0)).setCell ⟨gb232, 2, none⟩ (.int .i64 (wrap64 (a0_0 + 1)))).heap[gb232]? = some (.cells #[.int .i64 a1_0, .string a1_1, .int .i64 (wrap64 (a0_0 + 1)), .string a1_3] 38 (0, 0))) := ⟨by (with_reducible repeat (first | refine blk_drewN ?_ _ | refine blk_drew ?_ | refine blk_alloc ?_ _)); refine blk_put (cs := #[.int .i64 a1_0, .string a1_1, .int .i64 a1_2, .string a1_3]) ?_ 2 _ rfl; (with_reducible repeat (first | refine blk_drewN ?_ _ | refine blk_drew ?_ | refine blk_alloc ?_ _)); refine blk_far ?_ NB232_236.out _; (with_reducible repeat (first | refine blk_drewN ?_ _ | refine blk_drew ?_ | refine blk_alloc ?_ _)); refine blk_far ?_ NB232_236.out _; (with_reducible repeat (first | refine blk_drewN ?_ _ | refine blk_drew ?_ | refine blk_alloc ?_ _)); exact BK232.out⟩;have n2_ : Aside0 ((((w24.setCell ⟨gb236, 0, none⟩ (.int .i64 (wrap64 (a0_0 + 1)))).setCell ⟨gb236, 1, none⟩ (.slice none 0 0)).setCell ⟨gb232, 2, none⟩ (.int .i64 (wrap64 (a0_0 + 1)))).heap[gb233]? = some (.cells #[.int .i64 0, .slice none 0 0] 25 (0, 0))) := ⟨by (with_reducible repeat (first | refine blk_drewN ?_ _ | refine blk_drew ?_ | refine blk_alloc ?_ _)); refine blk_far ?_ NB233_232.out _; (with_reducible repeat (first | refine blk_drewN ?_ _ | refine blk_drew ?_ | refine blk_alloc ?_ _)); refine blk_far ?_ NB233_236.out _; (with_reducible repeat (first | refine blk_drewN ?_ _ | refine blk_drew ?_ | refine blk_alloc ?_ _)); refine blk_far ?_ NB233_236.out _; (with_reducible repeat (first | refine blk_drewN ?_ _ | refine blk_drew ?_ | refine blk_alloc ?_ _)); exact BK233.out⟩;have n3_ : Aside0 ((((w24.setCell ⟨gb236, 0, none⟩ (.int .i64 (wrap64 (a0_0 + 1)))).setCell ⟨gb236, 1, none⟩ (.slice none 0 0)).setCell ⟨gb232, 2, none⟩ (.int .i64 (wrap64 (a0_0 + 1)))).heap[gb236]? = some (.cells #[.int .i64 (wrap64 (a0_0 + 1)), .slice none 0 0] 25 (0, 0))) := ⟨by (with_reducible repeat (first | refine blk_drewN ?_ _ | refine blk_drew ?_ | refine blk_alloc ?_ _)); refine blk_far ?_ NB236_232.out _; (with_reducible repeat (first | refine blk_drewN ?_ _ | refine blk_drew ?_ | refine blk_alloc ?_ _)); refine blk_put (cs := #[.int .i64 (wrap64 (a0_0 + 1)), .slice none 0 0]) ?_ 1 _ rfl; (with_reducible repeat (first | refine blk_drewN ?_ _ | refine blk_drew ?_ | refine blk_alloc ?_ _)); refine blk_put (cs := #[.int .i64 0, .slice none 0 0]) ?_ 0 _ rfl; (with_reducible repeat (first | refine blk_drewN ?_ _ | refine blk_drew ?_ | refine blk_alloc ?_ _)); exact BK236.out⟩;have n4_ : Aside0 (Below w.heap.size w (((w24.setCell ⟨gb236, 0, none⟩ (.int .i64 (wrap64 (a0_0 + 1)))).setCell ⟨gb236, 1, none⟩ (.slice none 0 0)).setCell ⟨gb232, 2, none⟩ (.int .i64 (wrap64 (a0_0 + 1))))) := ⟨by repeat (first | (with_reducible first | exact HB.out | apply below_alloc | apply pw_below_drewN | apply below_drew1 | refine below_set ?_ GE231.out | refine below_set ?_ GE232.out | refine below_set ?_ GE233.out | refine below_set ?_ GE236.out) | exact HB.out)⟩
          (try clear BK231)
          (try clear BK232)
          (try clear BK233)
          (try clear BK236)
          (try clear HB)
          generalize (((w24.setCell ⟨gb236, 0, none⟩ (.int .i64 (wrap64 (a0_0 + 1)))).setCell ⟨gb236, 1, none⟩ (.slice none 0 0)).setCell ⟨gb232, 2, none⟩ (.int .i64 (wrap64 (a0_0 + 1)))) = w31 at n0_ n1_ n2_ n3_ n4_ ⊢;have BK231 := n0_;have BK232 := n1_;have BK233 := n2_;have BK236 := n3_;have HB := n4_;clear n0_ n1_ n2_ n3_ n4_;replace BK231 := Aside0.mk (blk_drew BK231.out);replace BK232 := Aside0.mk (blk_drew BK232.out);replace BK233 := Aside0.mk (blk_drew BK233.out);replace BK236 := Aside0.mk (blk_drew BK236.out);replace HB := Aside0.mk (below_drew1 HB.out);have q33 : (x5_1 : Int) ≤ ((l0_1.length : Int) : Int) := of_decide_eq_true (by first | (with_reducible assumption) | assumption);obtain ⟨i033, hi033, _, hsz33, _⟩ := info_parts info38;have hroom33 : l0_1.length ≤ c0_1 := HC0_1.out;have hC33 : Kd.C k38 _ A0_1 l0_1.length l0_1 := HR0_1.out;have hcut33 := cut_to (P := Try.prog) 23 38 .i64 Try.underlying23 hi033 A0_1 l0_1.length c0_1 x5_1 (of_decide_eq_true (by first | (with_reducible assumption) | assumption)) q33 hroom33;have hr33 := Kd.C_take (m := (x5_1 : Int).toNat) hC33 (by omega);have hy33 : y240.length = (x5_1 : Int).toNat := (by rw [Ny240.out, List.length_take]; omega);rw [← Ny240.out] at hr33;rw [← hy33] at hcut33;have HR243 := Aside0.mk hr33;have HC243 := Aside0.mk (show y240.length ≤ c0_1 from by omega);clear hr33 hC33 hroom33 hi033 hsz33;have KY33 := Aside0.mk hy33;clear hy33;replace q33 := eq_true q33;have q34 : (x5_1 : Int) ≤ ((l0_1.length : Int) : Int) := of_decide_eq_true (by first | (with_reducible assumption) | assumption);obtain ⟨i034, hi034, _, hsz34, _⟩ := info_parts info38;have hroom34 : l0_1.length ≤ c0_1 := HC0_1.out;have hC34 : Kd.C k38 _ A0_1 l0_1.length l0_1 := HR0_1.out;have q034 : (0 : Int) ≤ (x5_1 : Int) := of_decide_eq_true (by first | (with_reducible assumption) | assumption);have hcut34 := cut_from (P := Try.prog) 23 38 .i64 Try.underlying23 hi034 4 hsz34 A0_1 l0_1.length c0_1 x5_1 q034 q34;have hr34 := Kd.C_drop (m := (x5_1 : Int).toNat) (c := c0_1) hC34 (by omega) hroom34;obtain ⟨A34, hA34⟩ : ∃ A1, A1 = (if c0_1 = (x5_1 : Int).toNat then A0_1 else (A0_1 : Option Addr).map (·.add ((x5_1 : Int).toNat * 4))) := ⟨_, rfl⟩;obtain ⟨c34, hc34⟩ : ∃ c1, c1 = c0_1 - (x5_1 : Int).toNat := ⟨_, rfl⟩;have hy34 : y253.length = l0_1.length - (x5_1 : Int).toNat := (by rw [Ny253.out, List.length_drop] <;> omega);rw [show (l0_1).drop (x5_1 : Int).toNat = y253 from Ny253.out.symm] at hr34;replace hr34 : Kd.C k38 _ A34 y253.length y253 := (by rw [hA34]; exact hr34);rw [← hy34, ← hA34, ← hc34] at hcut34;have HR256 := Aside0.mk hr34;have HC256 := Aside0.mk (show y253.length ≤ c34 from by rw [hy34, hc34]; exact Nat.sub_le_sub_right hroom34 _);clear hr34 hC34 hroom34 hi034 hsz34 hc34;have KY34 := Aside0.mk hy34;have KA34 := Aside0.mk hA34;clear hy34 hA34;replace q34 := eq_true q34;refine start_ (n := 16) (S := fun w' => w'.cell? ⟨gb231, 0, none⟩ = some (.int .i64 a0_0) ∧ w'.cell? ⟨gb231, 1, none⟩ = some (.slice A0_1 l0_1.length c0_1) ∧ w'.cell? ⟨gb232, 0, none⟩ = some (.int .i64 a1_0) ∧ w'.cell? ⟨gb232, 1, none⟩ = some (.string a1_1) ∧ w'.cell? ⟨gb232, 2, none⟩ = some (.int .i64 (wrap64 (a0_0 + 1))) ∧ w'.cell? ⟨gb232, 3, none⟩ = some (.string a1_3)) (ds := []) #[ff,ff,ff,ff,ff,ff,ff,ff,ff,ff,ff,ff,ff,ff,ff,ff] (by kernel_rfl) rfl rfl ⟨(blk_cell BK231.out 0).trans rfl, (blk_cell BK231.out 1).trans rfl, (blk_cell BK232.out 0).trans rfl, (blk_cell BK232.out 1).trans rfl, (blk_cell BK232.out 2).trans rfl, (blk_cell BK232.out 3).trans rfl⟩ (fun hHeld => ?_); refine with_tabW spec_l9Put.tab6 spec_l9Put.bits6 (fun HT_ HW_ => ?_)
          generalize w31.drew = w32 at BK231 BK232 BK233 BK236 HB HR243 HR256 hHeld ⊢;refine pure_ (i := 1) (N := some 34) (v := ?_) (a' := ?_) #[ff,tt,ff,ff,ff,ff,ff,ff,ff,ff,ff,ff,ff,ff,ff,ff] rfl rfl (any_of HT_.out (by kernel_rfl)) (fun _ _ _ h => h) (Or.inl ⟨by rfl, ?_⟩) ?_ ?_;rotate_left
          ·intro w';go_simp;with_reducible rfl
          rotate_left;·simp only [Act.put, sB, s0, s1, i64_w, i32_w];rfl
          refine pure_ (i := 3) (N := some 36) (v := ?_) (a' := ?_) #[ff,tt,ff,tt,ff,ff,ff,ff,ff,ff,ff,ff,ff,ff,ff,ff] rfl rfl (any_of HT_.out (by kernel_rfl)) (fun _ _ _ h => h) (Or.inl ⟨by rfl, ?_⟩) ?_ ?_;rotate_left
          ·intro w';go_simp;with_reducible rfl
          rotate_left;·simp only [Act.put, sB, s0, s1, i64_w, i32_w];rfl
          refine pure_ (i := 9) (N := some 42) (v := ?_) (a' := ?_) #[ff,tt,ff,tt,ff,ff,ff,ff,ff,tt,ff,ff,ff,ff,ff,ff] rfl rfl (any_of HT_.out (by kernel_rfl)) (fun _ _ _ h => h) (Or.inl ⟨by rfl, ?_⟩) ?_ ?_;rotate_left
          ·intro w';go_simp;with_reducible rfl
          rotate_left;·simp only [Act.put, sB, s0, s1, i64_w, i32_w];rfl
          refine pure_ (i := 11) (N := some 44) (v := ?_) (a' := ?_) #[ff,tt,ff,tt,ff,ff,ff,ff,ff,tt,ff,tt,ff,ff,ff,ff] rfl rfl (any_of HT_.out (by kernel_rfl)) (fun _ _ _ h => h) (Or.inl ⟨by rfl, ?_⟩) ?_ ?_;rotate_left
          ·intro w';go_simp;with_reducible rfl
          rotate_left;·simp only [Act.put, sB, s0, s1, i64_w, i32_w];rfl
          refine take_ (i := 2) (N := some 35) (v := ?_) (a' := ?_) #[ff,tt,tt,tt,ff,ff,ff,ff,ff,tt,ff,tt,ff,ff,ff,ff] rfl rfl (take_ofW HT_.out HW_.out (by kernel_rfl)) (fun _ _ _ h => h) (Or.inl ⟨by rfl, ?_⟩) hHeld ?_ ?_;rotate_left
          ·rintro w' ⟨s0, s1, s2, s3, s4, s5⟩;go_simp;with_reducible rfl
          rotate_left;·simp only [Act.put, sB, s0, s1, i64_w, i32_w];rfl
          refine pure_ (i := 4) (N := some 37) (v := ?_) (a' := ?_) #[ff,tt,tt,tt,tt,ff,ff,ff,ff,tt,ff,tt,ff,ff,ff,ff] rfl rfl (any_of HT_.out (by kernel_rfl)) (fun _ _ _ h => h) (Or.inl ⟨by rfl, ?_⟩) ?_ ?_;rotate_left
          ·intro w';go_simp;with_reducible rfl
          rotate_left;·simp only [Act.put, sB, s0, s1, i64_w, i32_w];rfl
          refine take_ (i := 6) (N := some 39) (v := ?_) (a' := ?_) #[ff,tt,tt,tt,tt,ff,tt,ff,ff,tt,ff,tt,ff,ff,ff,ff] rfl rfl (take_ofW HT_.out HW_.out (by kernel_rfl)) (fun _ _ _ h => h) (Or.inl ⟨by rfl, ?_⟩) hHeld ?_ ?_;rotate_left
          ·rintro w' ⟨s0, s1, s2, s3, s4, s5⟩;go_simp;with_reducible rfl
          rotate_left;·simp only [Act.put, sB, s0, s1, i64_w, i32_w];rfl
          refine take_ (i := 10) (N := some 43) (v := ?_) (a' := ?_) #[ff,tt,tt,tt,tt,ff,tt,ff,ff,tt,tt,tt,ff,ff,ff,ff] rfl rfl (take_ofW HT_.out HW_.out (by kernel_rfl)) (fun _ _ _ h => h) (Or.inl ⟨by rfl, ?_⟩) hHeld ?_ ?_;rotate_left
          ·rintro w' ⟨s0, s1, s2, s3, s4, s5⟩;go_simp;with_reducible rfl
          rotate_left;·simp only [Act.put, sB, s0, s1, i64_w, i32_w];rfl
          refine pure_ (i := 12) (N := some 45) (v := ?_) (a' := ?_) #[ff,tt,tt,tt,tt,ff,tt,ff,ff,tt,tt,tt,tt,ff,ff,ff] rfl rfl (any_of HT_.out (by kernel_rfl)) (fun _ _ _ h => h) (Or.inl ⟨by rfl, ?_⟩) ?_ ?_;rotate_left
          ·intro w';go_simp;with_reducible rfl
          rotate_left;·simp only [Act.put, sB, s0, s1, i64_w, i32_w];rfl
          refine join_ (σ := Value × Value × Value) 4 #[tt,tt,tt,tt,tt,tt,tt,tt,ff,tt,tt,tt,tt,ff,ff,ff] (fun s_ => [(33, s_.1), (38, s_.2.1), (40, s_.2.2)]) (fun s_ w' => (w'.cell? ⟨gb231, 0, none⟩ = some (.int .i64 a0_0) ∧ w'.cell? ⟨gb231, 1, none⟩ = some (.slice A0_1 l0_1.length c0_1) ∧ w'.cell? ⟨gb232, 0, none⟩ = some (.int .i64 a1_0) ∧ w'.cell? ⟨gb232, 1, none⟩ = some (.string a1_1) ∧ w'.cell? ⟨gb232, 2, none⟩ = some (.int .i64 (wrap64 (a0_0 + 1))) ∧ w'.cell? ⟨gb232, 3, none⟩ = some (.string a1_3)) ∧ (Kd.R k38 38 w' w.heap.size (fun k_ => some k_ ≠ (s_.2.2 : Value).ownBlock ∧ k_ ≠ gb232) s_.2.1 y244) ∧ (Kd.R k38 38 w' w.heap.size (fun k_ => some k_ ≠ (s_.2.1 : Value).ownBlock ∧ k_ ≠ gb232) s_.2.2 y247) ∧ (w'.heap[gb231]? = some (.cells #[.int .i64 a0_0, .slice A0_1 l0_1.length c0_1] 25 (0, 0))) ∧ (w'.heap[gb232]? = some (.cells #[.int .i64 a1_0, .string a1_1, .int .i64 (wrap64 (a0_0 + 1)), .string a1_3] 38 (0, 0))) ∧ (w'.heap[gb233]? = some (.cells #[.int .i64 0, .slice none 0 0] 25 (0, 0))) ∧ (w'.heap[gb236]? = some (.cells #[.int .i64 (wrap64 (a0_0 + 1)), .slice none 0 0] 25 (0, 0))) ∧ (Below w.heap.size w w')) ?_ ?_;rotate_left
          ·intro hCont;refine two_ (i := 0) (j := 7) (Ni := some 33) (Nj := some 40) #[tt,tt,tt,tt,tt,ff,tt,ff,ff,tt,tt,tt,tt,ff,ff,ff] #[ff,tt,tt,tt,tt,ff,tt,tt,ff,tt,tt,tt,tt,ff,ff,ff] rfl rfl rfl rfl (two_of HT_.out (by kernel_rfl)) (by decide) (by decide) (fun K hK => ?_) (fun K hK => ?_)
           ·skip
            refine Kd.R_lit_step k38 _ 38 ?hg (N := 33) ?hd (xs := ([] : List (S38))) (inner := []) (ok := fun _ => True) (okp := fun _ => True) ?hr ?hp (fun _ hk => hk) trivial (Below.refl _ _) (Nat.le_refl _) (by simp) ?_; (case hd => rfl); (case hg => rfl); (case hr => first | (go_simp; done) | (go_simp; rfl)); (case hp => exact (Reps.none _ _))
            intro v238 w35 ho36 hb hg_ hnew_;clear hg_ hnew_
            (first | rw [← Ny237.out] at ho36 | (simp only [Int.reduceToNat] at ho36; rw [← Ny237.out] at ho36))
            have HO239 := Aside0.mk (Kd.R_lower (Kd.R_newB ho36 (bl BK232.out)) (below_size (by exact bb HB.out)));replace BK231 := kb BK231 hb;replace BK232 := kb BK232 hb;replace BK233 := kb BK233 hb;replace BK236 := kb BK236 hb;replace HB := hbb HB hb;clear hb ho36;refine hK.out _ _ ⟨(blk_cell BK231.out 0).trans rfl, (blk_cell BK231.out 1).trans rfl, (blk_cell BK232.out 0).trans rfl, (blk_cell BK232.out 1).trans rfl, (blk_cell BK232.out 2).trans rfl, (blk_cell BK232.out 3).trans rfl⟩ (fun hHeld => ?_);clear hK K;refine norm_ (a' := ?_) ?_ ?_;rotate_left
            ·show Act.put _ (some 33) _ = _;simp only [Act.put, sB, s0, s1, i64_w, i32_w];rfl
            refine two_ (i := 5) (j := 7) (Ni := some 38) (Nj := some 40) #[tt,tt,tt,tt,tt,tt,tt,ff,ff,tt,tt,tt,tt,ff,ff,ff] #[tt,tt,tt,tt,tt,ff,tt,tt,ff,tt,tt,tt,tt,ff,ff,ff] rfl rfl rfl rfl (two_of HT_.out (by kernel_rfl)) (by decide) (by decide) (fun K hK => ?_) (fun K hK => ?_)
            ·skip
             refine Kd.R_append_rows_step k38 (w0 := w) w.heap.size (by rfl) (.tmp 33) (.tmp 37) 23 38 (.agg #[(.int .i64 0), (.string ⟨#[]⟩), (.int .i64 0), (.string ⟨#[]⟩)]) 48 rfl Try.underlying23 info38 rfl (by decide) (by omega) v238 y237 y240 _ _ _ (fun k_ => k_ ≠ gb232) (fun _ => False) rfl rfl ?aO ?aR (fun _ _ h => h) (fun _ h => h.elim) ?aF ?aB ?aS ?aL ?_
             (case aR => repeat (first | exact (Kd.C_below HR243.out HB.out) | (with_reducible refine Kd.C_alloc ?_ _) | (with_reducible refine Kd.C_drewN ?_ _) | (with_reducible refine Kd.C_drew ?_)))
             (case aB => exact (by exact bb HB.out))
             (case aF => exact (fun k_ hk => Kd.freshB (bl BK232.out) k_ hk))
             (case aO => exact (by exact Kd.R_lat (Kd.R_mono HO239.out (fun _ hk => hk.2))))
             (case aS => exact (below_size (by exact bb HB.out)))
             (case aL => have := LMc16.out; omega)
             intro v245 w37 ho hb hg hat;rw [← Ny244.out] at ho;have HO246 := Aside0.mk (ho);replace BK231 := Aside0.mk (blk_grown (bl BK231.out) hg (Kd.R_ne HO239.out BK231.out (by decide)));replace BK232 := Aside0.mk (blk_grown (bl BK232.out) hg (Kd.R_away HO239.out (fun _ hk => hk.2)));replace BK233 := Aside0.mk (blk_grown (bl BK233.out) hg (Kd.R_ne HO239.out BK233.out (by decide)));replace BK236 := Aside0.mk (blk_grown (bl BK236.out) hg (Kd.R_ne HO239.out BK236.out (by decide)));replace HB := Aside0.mk (hb);clear HO239;clear ho hb hg hat;refine hK.out _ _ ⟨(blk_cell BK231.out 0).trans rfl, (blk_cell BK231.out 1).trans rfl, (blk_cell BK232.out 0).trans rfl, (blk_cell BK232.out 1).trans rfl, (blk_cell BK232.out 2).trans rfl, (blk_cell BK232.out 3).trans rfl⟩ (fun hHeld => ?_);clear hK K;refine norm_ (a' := ?_) ?_ ?_;rotate_left
             ·show Act.put _ (some 38) _ = _;simp only [Act.put, sB, s0, s1, i64_w, i32_w];rfl
             refine one_ (i := 7) (N := some 40) #[tt,tt,tt,tt,tt,tt,tt,tt,ff,tt,tt,tt,tt,ff,ff,ff] rfl rfl (one_of HT_.out (by kernel_rfl)) (by decide) (fun K hK => ?_);refine Kd.R_lit_step k38 _ 38 ?hg (N := 40) ?hd (xs := ([(⟨a1_0, a1_1, wrap64 (a0_0 + 1), a1_3⟩ : S38)] : List (S38))) (inner := [.int .i64 a1_0, .string a1_1, .int .i64 (wrap64 (a0_0 + 1)), .string a1_3]) (ok := fun _ => True) (okp := fun _ => True) ?hr ?hp (fun _ hk => hk) trivial (Below.refl _ _) (Nat.le_refl _) (by simp) ?_; (case hd => rfl); (case hg => rfl); (case hr => first | (go_simp; done) | (go_simp; rfl)); (case hp => exact (Reps.c4 (show Kd.M k38 _ _ _ (⟨a1_0, a1_1, wrap64 (a0_0 + 1), a1_3⟩ : S38) [.int .i64 a1_0, .string a1_1, .int .i64 (wrap64 (a0_0 + 1)), .string a1_3] from (k38_mkM _ _ _ (⟨a1_0, a1_1, wrap64 (a0_0 + 1), a1_3⟩ : S38) )) (Reps.none _ _)))
             intro v248 w38 ho39 hb hg_ hnew_;clear hg_ hnew_
             (first | rw [← Ny247.out] at ho39 | (simp only [Int.reduceToNat] at ho39; rw [← Ny247.out] at ho39))
             have HO249 := Aside0.mk (Kd.R_lower (Kd.R_newB (Kd.R_new' ho39 (Kd.R_lt (by exact Kd.R_lat (HO246.out)))) (bl BK232.out)) (below_size (by exact bb HB.out)));replace HO246 := Aside0.mk (Kd.R_elder' (by exact Kd.R_lat (HO246.out)) (Kd.R_base ho39) hb);replace BK231 := kb BK231 hb;replace BK232 := kb BK232 hb;replace BK233 := kb BK233 hb;replace BK236 := kb BK236 hb;replace HB := hbb HB hb;clear hb ho39;refine hK.out _ _ ⟨(blk_cell BK231.out 0).trans rfl, (blk_cell BK231.out 1).trans rfl, (blk_cell BK232.out 0).trans rfl, (blk_cell BK232.out 1).trans rfl, (blk_cell BK232.out 2).trans rfl, (blk_cell BK232.out 3).trans rfl⟩ (fun hHeld => ?_);clear hK K;refine norm_ (a' := ?_) ?_ ?_;rotate_left
             ·show Act.put _ (some 40) _ = _;simp only [Act.put, sB, s0, s1, i64_w, i32_w];rfl
             exact norm_ (by simp only [putAll, Act.put, sB, s0, s1]) (hCont (v238, v245, v248) _ ⟨hHeld, (by exact Kd.R_lat (Kd.R_mono HO246.out (fun _ hk => ⟨hk.2, hk.1⟩))), (by exact Kd.R_lat (Kd.R_mono HO249.out (fun _ hk => ⟨hk.1.2, hk.2⟩))), (bl BK231.out), (bl BK232.out), (bl BK233.out), (bl BK236.out), (by exact bb HB.out)⟩)
            skip
            refine Kd.R_lit_step k38 _ 38 ?hg (N := 40) ?hd (xs := ([(⟨a1_0, a1_1, wrap64 (a0_0 + 1), a1_3⟩ : S38)] : List (S38))) (inner := [.int .i64 a1_0, .string a1_1, .int .i64 (wrap64 (a0_0 + 1)), .string a1_3]) (ok := fun _ => True) (okp := fun _ => True) ?hr ?hp (fun _ hk => hk) trivial (Below.refl _ _) (Nat.le_refl _) (by simp) ?_; (case hd => rfl); (case hg => rfl); (case hr => first | (go_simp; done) | (go_simp; rfl)); (case hp => exact (Reps.c4 (show Kd.M k38 _ _ _ (⟨a1_0, a1_1, wrap64 (a0_0 + 1), a1_3⟩ : S38) [.int .i64 a1_0, .string a1_1, .int .i64 (wrap64 (a0_0 + 1)), .string a1_3] from (k38_mkM _ _ _ (⟨a1_0, a1_1, wrap64 (a0_0 + 1), a1_3⟩ : S38) )) (Reps.none _ _)))
            intro v248 w37 ho38 hb hg_ hnew_;clear hg_ hnew_
            (first | rw [← Ny247.out] at ho38 | (simp only [Int.reduceToNat] at ho38; rw [← Ny247.out] at ho38))
            have HO249 := Aside0.mk (Kd.R_lower (Kd.R_newB (Kd.R_new' ho38 (Kd.R_lt (by exact Kd.R_lat (HO239.out)))) (bl BK232.out)) (below_size (by exact bb HB.out)));replace HO239 := Aside0.mk (Kd.R_elder' (by exact Kd.R_lat (HO239.out)) (Kd.R_base ho38) hb);replace BK231 := kb BK231 hb;replace BK232 := kb BK232 hb;replace BK233 := kb BK233 hb;replace BK236 := kb BK236 hb;replace HB := hbb HB hb;clear hb ho38;refine hK.out _ _ ⟨(blk_cell BK231.out 0).trans rfl, (blk_cell BK231.out 1).trans rfl, (blk_cell BK232.out 0).trans rfl, (blk_cell BK232.out 1).trans rfl, (blk_cell BK232.out 2).trans rfl, (blk_cell BK232.out 3).trans rfl⟩ (fun hHeld => ?_);clear hK K;refine norm_ (a' := ?_) ?_ ?_;rotate_left
            ·show Act.put _ (some 40) _ = _;simp only [Act.put, sB, s0, s1, i64_w, i32_w];rfl
            refine one_ (i := 5) (N := some 38) #[tt,tt,tt,tt,tt,tt,tt,tt,ff,tt,tt,tt,tt,ff,ff,ff] rfl rfl (one_of HT_.out (by kernel_rfl)) (by decide) (fun K hK => ?_);refine Kd.R_append_rows_step k38 (w0 := w) w.heap.size (by rfl) (.tmp 33) (.tmp 37) 23 38 (.agg #[(.int .i64 0), (.string ⟨#[]⟩), (.int .i64 0), (.string ⟨#[]⟩)]) 48 rfl Try.underlying23 info38 rfl (by decide) (by omega) v238 y237 y240 _ _ _ (fun k_ => some k_ ≠ (v248 : Value).ownBlock ∧ k_ ≠ gb232) (fun _ => False) rfl rfl ?aO ?aR (fun _ _ h => h) (fun _ h => h.elim) ?aF ?aB ?aS ?aL ?_
            (case aR => repeat (first | exact (Kd.C_below HR243.out HB.out) | (with_reducible refine Kd.C_alloc ?_ _) | (with_reducible refine Kd.C_drewN ?_ _) | (with_reducible refine Kd.C_drew ?_)))
            (case aB => exact (by exact bb HB.out))
            (case aF => exact (fun k_ hk => ⟨Kd.fresh' (Kd.R_lt (by exact Kd.R_lat (HO249.out))) k_ hk, Kd.freshB (bl BK232.out) k_ hk⟩))
            (case aO => exact (by exact Kd.R_lat (Kd.R_mono HO239.out (fun _ hk => ⟨hk.2, hk.1.2⟩))))
            (case aS => exact (below_size (by exact bb HB.out)))
            (case aL => have := LMc16.out; omega)
            intro v245 w39 ho hb hg hat;rw [← Ny244.out] at ho;have HO246 := Aside0.mk (ho);replace BK231 := Aside0.mk (blk_grown (bl BK231.out) hg (Kd.R_ne HO239.out BK231.out (by decide)));replace BK232 := Aside0.mk (blk_grown (bl BK232.out) hg (Kd.R_away HO239.out (fun _ hk => hk.1.2)));replace BK233 := Aside0.mk (blk_grown (bl BK233.out) hg (Kd.R_ne HO239.out BK233.out (by decide)));replace BK236 := Aside0.mk (blk_grown (bl BK236.out) hg (Kd.R_ne HO239.out BK236.out (by decide)));replace HO249 := Aside0.mk (Kd.R_after (ok := (fun k_ => k_ ≠ gb232)) (by exact Kd.R_lat (Kd.R_mono HO249.out (fun _ hk => ⟨hk.2, hk.1.2⟩))) hg hat);replace HB := Aside0.mk (hb);clear HO239;clear ho hb hg hat;refine hK.out _ _ ⟨(blk_cell BK231.out 0).trans rfl, (blk_cell BK231.out 1).trans rfl, (blk_cell BK232.out 0).trans rfl, (blk_cell BK232.out 1).trans rfl, (blk_cell BK232.out 2).trans rfl, (blk_cell BK232.out 3).trans rfl⟩ (fun hHeld => ?_);clear hK K;refine norm_ (a' := ?_) ?_ ?_;rotate_left
            ·show Act.put _ (some 38) _ = _;simp only [Act.put, sB, s0, s1, i64_w, i32_w];rfl
            exact norm_ (by simp only [putAll, Act.put, sB, s0, s1]) (hCont (v238, v245, v248) _ ⟨hHeld, (by exact Kd.R_lat (HO246.out)), (by exact Kd.R_lat (Kd.R_mono HO249.out (fun _ hk => ⟨hk.2, hk.1⟩))), (bl BK231.out), (bl BK232.out), (bl BK233.out), (bl BK236.out), (by exact bb HB.out)⟩)
           skip
           refine Kd.R_lit_step k38 _ 38 ?hg (N := 40) ?hd (xs := ([(⟨a1_0, a1_1, wrap64 (a0_0 + 1), a1_3⟩ : S38)] : List (S38))) (inner := [.int .i64 a1_0, .string a1_1, .int .i64 (wrap64 (a0_0 + 1)), .string a1_3]) (ok := fun _ => True) (okp := fun _ => True) ?hr ?hp (fun _ hk => hk) trivial (Below.refl _ _) (Nat.le_refl _) (by simp) ?_; (case hd => rfl); (case hg => rfl); (case hr => first | (go_simp; done) | (go_simp; rfl)); (case hp => exact (Reps.c4 (show Kd.M k38 _ _ _ (⟨a1_0, a1_1, wrap64 (a0_0 + 1), a1_3⟩ : S38) [.int .i64 a1_0, .string a1_1, .int .i64 (wrap64 (a0_0 + 1)), .string a1_3] from (k38_mkM _ _ _ (⟨a1_0, a1_1, wrap64 (a0_0 + 1), a1_3⟩ : S38) )) (Reps.none _ _)))
           intro v248 w35 ho36 hb hg_ hnew_;clear hg_ hnew_
           (first | rw [← Ny247.out] at ho36 | (simp only [Int.reduceToNat] at ho36; rw [← Ny247.out] at ho36))
           have HO249 := Aside0.mk (Kd.R_lower (Kd.R_newB ho36 (bl BK232.out)) (below_size (by exact bb HB.out)));replace BK231 := kb BK231 hb;replace BK232 := kb BK232 hb;replace BK233 := kb BK233 hb;replace BK236 := kb BK236 hb;replace HB := hbb HB hb;clear hb ho36;refine hK.out _ _ ⟨(blk_cell BK231.out 0).trans rfl, (blk_cell BK231.out 1).trans rfl, (blk_cell BK232.out 0).trans rfl, (blk_cell BK232.out 1).trans rfl, (blk_cell BK232.out 2).trans rfl, (blk_cell BK232.out 3).trans rfl⟩ (fun hHeld => ?_);clear hK K;refine norm_ (a' := ?_) ?_ ?_;rotate_left
           ·show Act.put _ (some 40) _ = _;simp only [Act.put, sB, s0, s1, i64_w, i32_w];rfl
           refine one_ (i := 0) (N := some 33) #[tt,tt,tt,tt,tt,ff,tt,tt,ff,tt,tt,tt,tt,ff,ff,ff] rfl rfl (one_of HT_.out (by kernel_rfl)) (by decide) (fun K hK => ?_);refine Kd.R_lit_step k38 _ 38 ?hg (N := 33) ?hd (xs := ([] : List (S38))) (inner := []) (ok := fun _ => True) (okp := fun _ => True) ?hr ?hp (fun _ hk => hk) trivial (Below.refl _ _) (Nat.le_refl _) (by simp) ?_; (case hd => rfl); (case hg => rfl); (case hr => first | (go_simp; done) | (go_simp; rfl)); (case hp => exact (Reps.none _ _))
           intro v238 w37 ho38 hb hg_ hnew_;clear hg_ hnew_
           (first | rw [← Ny237.out] at ho38 | (simp only [Int.reduceToNat] at ho38; rw [← Ny237.out] at ho38))
           have HO239 := Aside0.mk (Kd.R_lower (Kd.R_newB (Kd.R_new' ho38 (Kd.R_lt (by exact Kd.R_lat (HO249.out)))) (bl BK232.out)) (below_size (by exact bb HB.out)));replace HO249 := Aside0.mk (Kd.R_elder' (by exact Kd.R_lat (HO249.out)) (Kd.R_base ho38) hb);replace BK231 := kb BK231 hb;replace BK232 := kb BK232 hb;replace BK233 := kb BK233 hb;replace BK236 := kb BK236 hb;replace HB := hbb HB hb;clear hb ho38;refine hK.out _ _ ⟨(blk_cell BK231.out 0).trans rfl, (blk_cell BK231.out 1).trans rfl, (blk_cell BK232.out 0).trans rfl, (blk_cell BK232.out 1).trans rfl, (blk_cell BK232.out 2).trans rfl, (blk_cell BK232.out 3).trans rfl⟩ (fun hHeld => ?_);clear hK K;refine norm_ (a' := ?_) ?_ ?_;rotate_left
           ·show Act.put _ (some 33) _ = _;simp only [Act.put, sB, s0, s1, i64_w, i32_w];rfl
           refine one_ (i := 5) (N := some 38) #[tt,tt,tt,tt,tt,tt,tt,tt,ff,tt,tt,tt,tt,ff,ff,ff] rfl rfl (one_of HT_.out (by kernel_rfl)) (by decide) (fun K hK => ?_);refine Kd.R_append_rows_step k38 (w0 := w) w.heap.size (by rfl) (.tmp 33) (.tmp 37) 23 38 (.agg #[(.int .i64 0), (.string ⟨#[]⟩), (.int .i64 0), (.string ⟨#[]⟩)]) 48 rfl Try.underlying23 info38 rfl (by decide) (by omega) v238 y237 y240 _ _ _ (fun k_ => some k_ ≠ (v248 : Value).ownBlock ∧ k_ ≠ gb232) (fun _ => False) rfl rfl ?aO ?aR (fun _ _ h => h) (fun _ h => h.elim) ?aF ?aB ?aS ?aL ?_
           (case aR => repeat (first | exact (Kd.C_below HR243.out HB.out) | (with_reducible refine Kd.C_alloc ?_ _) | (with_reducible refine Kd.C_drewN ?_ _) | (with_reducible refine Kd.C_drew ?_)))
           (case aB => exact (by exact bb HB.out))
           (case aF => exact (fun k_ hk => ⟨Kd.fresh' (Kd.R_lt (by exact Kd.R_lat (HO249.out))) k_ hk, Kd.freshB (bl BK232.out) k_ hk⟩))
           (case aO => exact (by exact Kd.R_lat (Kd.R_mono HO239.out (fun _ hk => ⟨hk.1.2, hk.2⟩))))
           (case aS => exact (below_size (by exact bb HB.out)))
           (case aL => have := LMc16.out; omega)
           intro v245 w39 ho hb hg hat;rw [← Ny244.out] at ho;have HO246 := Aside0.mk (ho);replace BK231 := Aside0.mk (blk_grown (bl BK231.out) hg (Kd.R_ne HO239.out BK231.out (by decide)));replace BK232 := Aside0.mk (blk_grown (bl BK232.out) hg (Kd.R_away HO239.out (fun _ hk => hk.2)));replace BK233 := Aside0.mk (blk_grown (bl BK233.out) hg (Kd.R_ne HO239.out BK233.out (by decide)));replace BK236 := Aside0.mk (blk_grown (bl BK236.out) hg (Kd.R_ne HO239.out BK236.out (by decide)));replace HO249 := Aside0.mk (Kd.R_after (ok := (fun k_ => k_ ≠ gb232)) (by exact Kd.R_lat (Kd.R_mono HO249.out (fun _ hk => ⟨hk.1.2, hk.2⟩))) hg hat);replace HB := Aside0.mk (hb);clear HO239;clear ho hb hg hat;refine hK.out _ _ ⟨(blk_cell BK231.out 0).trans rfl, (blk_cell BK231.out 1).trans rfl, (blk_cell BK232.out 0).trans rfl, (blk_cell BK232.out 1).trans rfl, (blk_cell BK232.out 2).trans rfl, (blk_cell BK232.out 3).trans rfl⟩ (fun hHeld => ?_);clear hK K;refine norm_ (a' := ?_) ?_ ?_;rotate_left
           ·show Act.put _ (some 38) _ = _;simp only [Act.put, sB, s0, s1, i64_w, i32_w];rfl
           exact norm_ (by simp only [putAll, Act.put, sB, s0, s1]) (hCont (v238, v245, v248) _ ⟨hHeld, (by exact Kd.R_lat (HO246.out)), (by exact Kd.R_lat (Kd.R_mono HO249.out (fun _ hk => ⟨hk.2, hk.1⟩))), (bl BK231.out), (bl BK232.out), (bl BK233.out), (bl BK236.out), (by exact bb HB.out)⟩)
          rintro ⟨v238, v245, v248⟩ w40 ⟨hS_, h0_, h1_, h2_, h3_, h4_, h5_, h6_⟩;have n0_ : Aside0 (Kd.R k38 38 w40 w.heap.size (fun k_ => some k_ ≠ (v248 : Value).ownBlock ∧ k_ ≠ gb232) v245 y244) := ⟨h0_⟩;have n1_ : Aside0 (Kd.R k38 38 w40 w.heap.size (fun k_ => some k_ ≠ (v245 : Value).ownBlock ∧ k_ ≠ gb232) v248 y247) := ⟨h1_⟩;have n2_ : Aside0 (w40.heap[gb231]? = some (.cells #[.int .i64 a0_0, .slice A0_1 l0_1.length c0_1] 25 (0, 0))) := ⟨h2_⟩;have n3_ : Aside0 (w40.heap[gb232]? = some (.cells #[.int .i64 a1_0, .string a1_1, .int .i64 (wrap64 (a0_0 + 1)), .string a1_3] 38 (0, 0))) := ⟨h3_⟩;have n4_ : Aside0 (w40.heap[gb233]? = some (.cells #[.int .i64 0, .slice none 0 0] 25 (0, 0))) := ⟨h4_⟩;have n5_ : Aside0 (w40.heap[gb236]? = some (.cells #[.int .i64 (wrap64 (a0_0 + 1)), .slice none 0 0] 25 (0, 0))) := ⟨h5_⟩;have n6_ : Aside0 (Below w.heap.size w w40) := ⟨h6_⟩;clear BK231;clear BK232;clear BK233;clear BK236;clear HB;clear h0_ h1_ h2_ h3_ h4_ h5_ h6_;have HO246 := n0_;have HO249 := n1_;have BK231 := n2_;have BK232 := n3_;have BK233 := n4_;have BK236 := n5_;have HB := n6_;clear n0_ n1_ n2_ n3_ n4_ n5_ n6_;have hHeld : w40.cell? ⟨gb231, 0, none⟩ = some (.int .i64 a0_0) ∧ w40.cell? ⟨gb231, 1, none⟩ = some (.slice A0_1 l0_1.length c0_1) ∧ w40.cell? ⟨gb232, 0, none⟩ = some (.int .i64 a1_0) ∧ w40.cell? ⟨gb232, 1, none⟩ = some (.string a1_1) ∧ w40.cell? ⟨gb232, 2, none⟩ = some (.int .i64 (wrap64 (a0_0 + 1))) ∧ w40.cell? ⟨gb232, 3, none⟩ = some (.string a1_3) := hS_;obtain ⟨Ao42, co42, eo42⟩ := Kd.R_slice HO249.out
          (first | subst eo42 | (injection eo42 with f1_ f2_ f3_; have f4_ := f1_.symm; have f5_ := f3_.symm; clear f1_ f2_ f3_; subst f4_; subst f5_))
          refine norm_ (a' := ?_) ?_ ?_;rotate_left
          ·simp only [putAll, Act.put, sB, s0, s1];rfl
          refine one_ (i := 8) (N := some 41) #[tt,tt,tt,tt,tt,tt,tt,tt,tt,tt,tt,tt,tt,ff,ff,ff] rfl rfl (one_of HT_.out (by kernel_rfl)) (by decide) (fun K hK => ?_);refine Kd.R_append_rows_step k38 (w0 := w) w.heap.size (by rfl) (.tmp 38) (.tmp 40) 23 38 (.agg #[(.int .i64 0), (.string ⟨#[]⟩), (.int .i64 0), (.string ⟨#[]⟩)]) 48 rfl Try.underlying23 info38 rfl (by decide) (by omega) v245 y244 y247 _ _ _ (fun k_ => some k_ ≠ (.slice Ao42 y247.length co42 : Value).ownBlock ∧ k_ ≠ gb232) (fun _ => False) rfl rfl ?aO ?aR (fun _ _ h => h) (fun _ h => h.elim) ?aF ?aB ?aS ?aL ?_
          (case aR => exact Kd.cR HO249)
          (case aB => exact (by exact bb HB.out))
          (case aF => exact (fun k_ hk => ⟨Kd.fresh' (Kd.R_lt (by exact Kd.R_lat (HO249.out))) k_ hk, Kd.freshB (bl BK232.out) k_ hk⟩))
          (case aO => exact (by exact Kd.R_lat (HO246.out)))
          (case aS => exact (below_size (by exact bb HB.out)))
          (case aL => have := LMc17.out; omega)
          intro v251 w41 ho hb hg hat;rw [← Ny250.out] at ho;have HO252 := Aside0.mk (ho);replace BK231 := Aside0.mk (blk_grown (bl BK231.out) hg (Kd.R_ne HO246.out BK231.out (by decide)));replace BK232 := Aside0.mk (blk_grown (bl BK232.out) hg (Kd.R_away HO246.out (fun _ hk => hk.2)));replace BK233 := Aside0.mk (blk_grown (bl BK233.out) hg (Kd.R_ne HO246.out BK233.out (by decide)));replace BK236 := Aside0.mk (blk_grown (bl BK236.out) hg (Kd.R_ne HO246.out BK236.out (by decide)));replace HO249 := Aside0.mk (Kd.R_after (ok := (fun k_ => k_ ≠ gb232)) (by exact Kd.R_lat (Kd.R_mono HO249.out (fun _ hk => ⟨hk.2, hk.1⟩))) hg hat);replace HB := Aside0.mk (hb);clear HO246;clear ho hb hg hat;refine hK.out _ _ ⟨(blk_cell BK231.out 0).trans rfl, (blk_cell BK231.out 1).trans rfl, (blk_cell BK232.out 0).trans rfl, (blk_cell BK232.out 1).trans rfl, (blk_cell BK232.out 2).trans rfl, (blk_cell BK232.out 3).trans rfl⟩ (fun hHeld => ?_);clear hK K;refine norm_ (a' := ?_) ?_ ?_;rotate_left
          ·show Act.put _ (some 41) _ = _;simp only [Act.put, sB, s0, s1, i64_w, i32_w];rfl
          refine one_ (i := 13) (N := some 46) #[tt,tt,tt,tt,tt,tt,tt,tt,tt,tt,tt,tt,tt,tt,ff,ff] rfl rfl (one_of HT_.out (by kernel_rfl)) (by decide) (fun K hK => ?_);refine Kd.R_append_rows_step k38 (w0 := w) w.heap.size (by rfl) (.tmp 41) (.tmp 45) 23 38 (.agg #[(.int .i64 0), (.string ⟨#[]⟩), (.int .i64 0), (.string ⟨#[]⟩)]) 48 rfl Try.underlying23 info38 rfl (by decide) (by omega) v251 y250 y253 _ _ _ (fun k_ => some k_ ≠ (.slice Ao42 y247.length co42 : Value).ownBlock ∧ k_ ≠ gb232) (fun _ => False) rfl rfl ?aO ?aR (fun _ _ h => h) (fun _ h => h.elim) ?aF ?aB ?aS ?aL ?_
          (case aR => repeat (first | exact (Kd.C_below HR256.out HB.out) | (with_reducible refine Kd.C_alloc ?_ _) | (with_reducible refine Kd.C_drewN ?_ _) | (with_reducible refine Kd.C_drew ?_)))
          (case aB => exact (by exact bb HB.out))
          (case aF => exact (fun k_ hk => ⟨Kd.fresh' (Kd.R_lt (by exact Kd.R_lat (HO249.out))) k_ hk, Kd.freshB (bl BK232.out) k_ hk⟩))
          (case aO => exact (by exact Kd.R_lat (HO252.out)))
          (case aS => exact (below_size (by exact bb HB.out)))
          (case aL => have := LMc20.out; omega)
          intro v258 w43 ho hb hg hat;rw [← Ny257.out] at ho;have HO259 := Aside0.mk (ho);replace BK231 := Aside0.mk (blk_grown (bl BK231.out) hg (Kd.R_ne HO252.out BK231.out (by decide)));replace BK232 := Aside0.mk (blk_grown (bl BK232.out) hg (Kd.R_away HO252.out (fun _ hk => hk.2)));replace BK233 := Aside0.mk (blk_grown (bl BK233.out) hg (Kd.R_ne HO252.out BK233.out (by decide)));replace BK236 := Aside0.mk (blk_grown (bl BK236.out) hg (Kd.R_ne HO252.out BK236.out (by decide)));replace HO249 := Aside0.mk (Kd.R_after (ok := (fun k_ => k_ ≠ gb232)) (by exact Kd.R_lat (HO249.out)) hg hat);replace HB := Aside0.mk (hb);clear HO252;clear ho hb hg hat;obtain ⟨Ao44, co44, eo44⟩ := Kd.R_slice HO259.out
          (first | subst eo44 | (injection eo44 with f1_ f2_ f3_; have f4_ := f1_.symm; have f5_ := f3_.symm; clear f1_ f2_ f3_; subst f4_; subst f5_))
          refine hK.out _ _ ⟨(blk_cell BK231.out 0).trans rfl, (blk_cell BK231.out 1).trans rfl, (blk_cell BK232.out 0).trans rfl, (blk_cell BK232.out 1).trans rfl, (blk_cell BK232.out 2).trans rfl, (blk_cell BK232.out 3).trans rfl⟩ (fun hHeld => ?_);clear hK K;refine norm_ (a' := ?_) ?_ ?_;rotate_left
          ·show Act.put _ (some 46) _ = _;simp only [Act.put, sB, s0, s1, i64_w, i32_w];rfl
          refine pure_ (i := 14) (N := some 47) (v := ?_) (a' := ?_) #[tt,tt,tt,tt,tt,tt,tt,tt,tt,tt,tt,tt,tt,tt,tt,ff] rfl rfl (any_of HT_.out (by kernel_rfl)) (fun _ _ _ h => h) (Or.inl ⟨by rfl, ?_⟩) ?_ ?_;rotate_left
          ·intro w';go_simp;with_reducible rfl
          rotate_left;·simp only [Act.put, sB, s0, s1, i64_w, i32_w];rfl
          refine one_ (i := 15) (N := none) #[tt,tt,tt,tt,tt,tt,tt,tt,tt,tt,tt,tt,tt,tt,tt,tt] rfl rfl (one_of HT_.out (by kernel_rfl)) (by decide) (fun K hK => ?_);have hs45 : w43.cell? ⟨gb236, 1, none⟩ = some (.slice none 0 0) := (blk_cell BK236.out 1).trans rfl;have hfs45 := blk_frozen BK236.out 1;have hns45_0 := NB231_236.out;have hns45_1 := NB232_236.out;have hns45_2 := NB233_236.out;have hms45_0 := NB236_231.out;have hms45_1 := NB236_232.out;have hms45_2 := NB236_233.out;refine skip_ (w1 := ?_) (by rfl) rfl ?_ ?_;rotate_left
          ·go_simp;rfl
          refine hK.out _ _ ⟨((cell_far (p := ⟨gb236, _, none⟩) NB231_236.out _).trans (hHeld.1)), ((cell_far (p := ⟨gb236, _, none⟩) NB231_236.out _).trans (hHeld.2.1)), ((cell_far (p := ⟨gb236, _, none⟩) NB232_236.out _).trans (hHeld.2.2.1)), ((cell_far (p := ⟨gb236, _, none⟩) NB232_236.out _).trans (hHeld.2.2.2.1)), ((cell_far (p := ⟨gb236, _, none⟩) NB232_236.out _).trans (hHeld.2.2.2.2.1)), ((cell_far (p := ⟨gb236, _, none⟩) NB232_236.out _).trans (hHeld.2.2.2.2.2))⟩ (fun hHeld => ?_);clear hK K;refine done_ (done_of HT_.out (by kernel_rfl)) ?_;obtain ⟨hcz46_0, hcz46_1, hfz46_0, hfz46_1⟩ := c2 BK236;obtain ⟨hcz47_0, hcz47_1, hfz47_0, hfz47_1⟩ := c2 BK233
          try go_wp2
          refine bodyPost_ret (results_cell_row rfl _ _ gb233 25 #[.int .i64 (wrap64 (a0_0 + 1)), .slice Ao44 y257.length co44] (0, 0) _ rfl (by (with_reducible repeat (first | refine blk_drewN ?_ _ | refine blk_drew ?_ | refine blk_alloc ?_ _)); refine blk_put (cs := #[.int .i64 (wrap64 (a0_0 + 1)), .slice none 0 0]) ?_ 1 _ rfl; (with_reducible repeat (first | refine blk_drewN ?_ _ | refine blk_drew ?_ | refine blk_alloc ?_ _)); refine blk_put (cs := #[.int .i64 0, .slice none 0 0]) ?_ 0 _ rfl; (with_reducible repeat (first | refine blk_drewN ?_ _ | refine blk_drew ?_ | refine blk_alloc ?_ _)); refine blk_far ?_ NB233_236.out _; (with_reducible repeat (first | refine blk_drewN ?_ _ | refine blk_drew ?_ | refine blk_alloc ?_ _)); exact BK233.out) Try.underlying25 rfl (by kernel_rfl)) rfl ?_;exact ⟨_, by first | rfl | (simp [errW_none, errW_some] <;> rfl) | (simp [*, errW_none, errW_some] <;> rfl), by (with_reducible repeat (first | apply Kd.R_alloc | apply Kd.R_drewN | apply Kd.R_drew)); exact Kd.R_mono (Kd.R_far (p := ⟨gb233, 1, none⟩) (Kd.R_far (p := ⟨gb233, 0, none⟩) (Kd.R_far (p := ⟨gb236, 1, none⟩) (Kd.R_types (Kd.R_types HO259.out BK236.out (by decide)) BK233.out (by decide)) (fun _ hk => hk.1.2) (.slice Ao44 y257.length co44)) (fun _ hk => hk.2) (.int .i64 (wrap64 (a0_0 + 1)))) (fun _ hk => hk.2) (.slice Ao44 y257.length co44)) (fun _ hk => trivial), by repeat (first | (with_reducible first | exact HB.out | apply below_alloc | apply pw_below_drewN | apply below_drew1 | refine below_set ?_ GE231.out | refine below_set ?_ GE232.out | refine below_set ?_ GE233.out | refine below_set ?_ GE236.out) | exact HB.out)⟩
         rw [if_neg c20] at H;exact absurd H (by simp)
        rw [if_neg c17] at H;exact absurd H (by simp)
       rw [if_neg c16] at H;exact absurd H (by simp)
      rw [if_neg c15] at H;exact absurd H (by simp)
     rw [if_neg c14] at H;exact absurd H (by simp)
end Go.Proofs.Ytoohbmoljdfbjaa.P
