-- made by wip/prt/pp.py over the kit's print
import Derived.Test.YtoohbmoljdfbjaaPx0
import Derived.Test.YtoohbmoljdfbjaaPx1
import Derived.Test.YtoohbmoljdfbjaaPx2
import Derived.Test.YtoohbmoljdfbjaaPx3
import Derived.Test.YtoohbmoljdfbjaaPx5
import Derived.Test.YtoohbmoljdfbjaaPx6
import Derived.Test.YtoohbmoljdfbjaaFind
namespace Go.Proofs.Ytoohbmoljdfbjaa.P
open Go.RowKit Go.Proofs.YtoohbmoljdfbjaaW.PrintWords Go.Proofs.YtoohbmoljdfbjaaW.PrintLast Go.Proofs.YtoohbmoljdfbjaaW.PrintMore
attribute [local go_sem] max2_int min2_int max_two min_two max_three min_three max_four min_four   -- for this text's walks alone
set_option linter.unusedVariables false
set_option linter.unusedSimpArgs false
attribute [local go_sem high] eqA38
def impl_CatEdition.j0 : Nat → Int → Bool → Int → List (S38) → Option (Int × ByteArray × Int × ByteArray × Bool)
 | 0, _, _, _, _ => none
 | k + 1, x6, x16, x418000, x418001 => if x16 = true then (some (0, (⟨#[]⟩ : ByteArray), 0, (⟨#[]⟩ : ByteArray), false)) else (if 0 ≤ x6 then (if x6 < (x418001.length : Int) then (some ((rd_T38 x418001 x6).f0, (rd_T38 x418001 x6).f1, (rd_T38 x418001 x6).f2, (rd_T38 x418001 x6).f3, true)) else (none)) else (none))
def impl_CatEdition.f (k : Nat) (a0_0 : Int) (l0_1 : List (S38)) (a1 : Int) : Option (Int × ByteArray × Int × ByteArray × Bool) := (impl_Cat_edition.f a0_0 l0_1 a1).bind fun t419 => ((impl_CatOk.f k a0_0 l0_1).bind fun t420 => (if t420 = true then (impl_CatEdition.j0 k t419 (decide (t419 < 0)) a0_0 l0_1) else (impl_CatEdition.j0 k t419 true a0_0 l0_1)))
theorem impl_CatEdition.mono_l : ∀ k, (∀ y0 y1 y2 y3, LeO (impl_CatEdition.j0 k y0 y1 y2 y3) (impl_CatEdition.j0 (k + 1) y0 y1 y2 y3))
 | 0 => fun _ _ _ _ r h => by simp [impl_CatEdition.j0] at h
 | k + 1 => by
  have ih0 := impl_CatEdition.mono_l k;intro y0 y1 y2 y3;unfold impl_CatEdition.j0
  repeat' first
  | (with_reducible exact ih0 _ _ _ _)
  | (with_reducible exact impl_CatOk.mono _ _ _)
  | (with_reducible exact LeO.refl _)
  | (with_reducible exact LeO.none _)
  | (with_reducible refine LeO.ite ?_ ?_)
  | (with_reducible refine LeO.bind ?_ (fun _ => ?_))
  | exact LeO.none _
  | refine LeO.ite ?_ ?_
  | refine LeO.bind ?_ (fun _ => ?_)
theorem impl_CatEdition.mono : ∀ a0 a1 a2 k, LeO (impl_CatEdition.f k a0 a1 a2) (impl_CatEdition.f (k + 1) a0 a1 a2) := by
 intro a0 a1 a2 k;have ih0 := impl_CatEdition.mono_l k;unfold impl_CatEdition.f
 repeat' first
   | (with_reducible exact ih0 _ _ _ _)
   | (with_reducible exact impl_CatOk.mono _ _ _)
   | (with_reducible exact LeO.refl _)
   | (with_reducible exact LeO.none _)
   | (with_reducible refine LeO.ite ?_ ?_)
   | (with_reducible refine LeO.bind ?_ (fun _ => ?_))
   | exact LeO.none _
   | refine LeO.ite ?_ ?_
   | refine LeO.bind ?_ (fun _ => ?_)
set_option maxHeartbeats 8000000 in
set_option maxRecDepth 100000 in
theorem impl_CatEdition.calls (k : Nat) (a0_0 : Int) (A0_1 : Option Addr) (c0_1 : Nat) (l0_1 : List (S38)) (a1 : Int) (r1 : Int) (r2 : ByteArray) (r3 : Int) (r4 : ByteArray) (r5 : Bool) (w : World) (hr0_1 : Kd.C k38 w A0_1 l0_1.length l0_1) (hc0_1 : l0_1.length ≤ c0_1) (h : impl_CatEdition.f k a0_0 l0_1 a1 = some (r1, r2, r3, r4, r5)) :
  Calls Try.prog 15 #[.agg #[.int .i64 a0_0, .slice A0_1 l0_1.length c0_1], .int .i64 a1] w fun e w' => e = .returned (.tuple #[.agg #[.int .i64 r1, .string r2, .int .i64 r3, .string r4], .bool r5]) ∧ Below w.heap.size w w' := by
 have hu25 := Try.underlying25;have hu38 := Try.underlying38;have HR0_1 := Aside0.mk hr0_1;have HC0_1 := Aside0.mk hc0_1;clear hr0_1 hc0_1;have HB := Aside0.mk (Below.refl w.heap.size w);have H : ((impl_Cat_edition.f a0_0 l0_1 a1).bind fun t419 => ((impl_CatOk.f k a0_0 l0_1).bind fun t420 => (if t420 = true then (impl_CatEdition.j0 k t419 (decide (t419 < 0)) a0_0 l0_1) else (impl_CatEdition.j0 k t419 true a0_0 l0_1)))) = some (r1, r2, r3, r4, r5) := h;clear h;replace H := Option.bind_eq_some_iff.mp H;obtain ⟨t419, A30, H⟩ := H;have A3 := Aside0.mk A30;clear A30;have HC4 := Aside0.mk H;clear H
 go_enter Try.func15, Try.ntmps15
 go_upto_region 2 with (first | ((with_reducible refine gate_dst (N := 2) rfl ?_); refine box_event ?hg (N := 2) ?hd (cs := #[.int .i64 a0_0, .slice A0_1 l0_1.length c0_1]) (t := 25) ?hr ?_; (case hd => rfl); (case hg => rfl); (case hr => first | (go_simp; done) | (go_simp; rfl)); intro gb417 hg w5 hbox hb; have BK417 := Aside0.mk (hbox); have GW417 := gw HB hg; have GE417 := gw HB hg; replace HB := hbb HB hb; clear hb hbox hg) | ((with_reducible refine gate_dst (N := 4) rfl ?_); refine box_event ?hg (N := 4) ?hd (cs := #[.int .i64 0, .string (⟨#[]⟩ : ByteArray), .int .i64 0, .string (⟨#[]⟩ : ByteArray)]) (t := 38) ?hr ?_; (case hd => rfl); (case hg => rfl); (case hr => first | (go_simp; done) | (go_simp; rfl)); intro gb418 hg w6 hbox hb; have BK418 := Aside0.mk (hbox); have GW418 := gw HB hg; have GE418 := gw HB hg; have NB417_418 := nl BK417 hg; have NB418_417 := ng BK417 hg; replace BK417 := kb BK417 hb; replace HB := hbb HB hb; clear hb hbox hg; have hnb7 := NB417_418.out; have hnc7 := NB418_417.out; obtain ⟨hcz8_0, hcz8_1, hfz8_0, hfz8_1⟩ := c2 BK417) | ((with_reducible refine gate_callee (f := 34) rfl ?_); refine goesL_ (some 9) rfl rfl Try.func34 (by kernel_rfl) rfl #[.agg #[.int .i64 a0_0, .slice A0_1 l0_1.length c0_1], .int .i64 a1] rfl (by (try simp only [List.map_toArray, List.map_cons, List.map_nil]); first | done | rfl | (simp only [List.length_drop, List.length_take]; rfl)) ?_; (with_reducible refine (impl_Cat_edition.calls a0_0 _ _ l0_1 a1 t419 _ ?side1 ?side2 A3.out).mono ?_); (case side1 => repeat (first | exact (Kd.C_below HR0_1.out HB.out) | (with_reducible refine Kd.C_alloc ?_ _) | (with_reducible refine Kd.C_drewN ?_ _) | (with_reducible refine Kd.C_drew ?_))); (case side2 => exact HC0_1.out); rintro e w9 ⟨rfl, hb⟩; refine ⟨_, rfl, ?_⟩; replace BK417 := kb BK417 hb; replace BK418 := kb BK418 hb; replace HB := hbb HB hb; (try clear hb); (try clear hb2); (try clear hk); (try clear hi)))
 (try simp only [Act.put, sB, s0, s1])
 go_cut [16] (fun v16 wc => ∃ (kq : Nat) (x16_3 : Bool), v16 = .bool x16_3 ∧ Aside0 (impl_CatEdition.j0 kq t419 x16_3 a0_0 l0_1 = some (r1, r2, r3, r4, r5)) ∧ Aside0 (kq ≤ k) ∧ Aside0 (wc.heap[gb417]? = some (.cells #[.int .i64 a0_0, (.slice A0_1 l0_1.length c0_1)] 25 (0, 0))) ∧ Aside0 (wc.heap[gb418]? = some (.cells #[.int .i64 0, .string (⟨#[]⟩ : ByteArray), .int .i64 0, .string (⟨#[]⟩ : ByteArray)] 38 (0, 0))) ∧ Aside0 (Below w.heap.size w wc))
 case first =>
  have H := HC4.out;clear HC4;replace H := Option.bind_eq_some_iff.mp H;obtain ⟨t420, A100, H⟩ := H;have A10 := Aside0.mk A100;clear A100
  by_cases c11 : t420 = true
  ·subst c11;rw [if_pos rfl] at H;have H' := Aside0.mk H;clear H;have hnb12 := NB417_418.out;have hnc12 := NB418_417.out;obtain ⟨hcz13_0, hcz13_1, hfz13_0, hfz13_1⟩ := c2 BK417;go_wp2_with (first | ((with_reducible refine gate_callee (f := 16) rfl ?_); refine goesL_ (some 11) rfl rfl Try.func16 (by kernel_rfl) rfl #[.agg #[.int .i64 a0_0, .slice A0_1 l0_1.length c0_1]] rfl (by (try simp only [List.map_toArray, List.map_cons, List.map_nil]); first | done | rfl | (simp only [List.length_drop, List.length_take]; rfl)) ?_; (with_reducible refine (impl_CatOk.calls k a0_0 _ _ l0_1 true _ ?side1 ?side2 A10.out).mono ?_); (case side1 => repeat (first | exact (Kd.C_below HR0_1.out HB.out) | (with_reducible refine Kd.C_alloc ?_ _) | (with_reducible refine Kd.C_drewN ?_ _) | (with_reducible refine Kd.C_drew ?_))); (case side2 => exact HC0_1.out); rintro e w14 ⟨rfl, hb⟩; refine ⟨_, rfl, ?_⟩; replace BK417 := kb BK417 hb; replace BK418 := kb BK418 hb; replace HB := hbb HB hb; (try clear hb); (try clear hb2); (try clear hk); (try clear hi)))
   go_meet
   case rel => exact ⟨_, (decide (t419 < 0)), (by first | rfl | (simp; done) | (simp [*]; done)), H', ⟨by first | omega | exact Nat.le_refl _⟩, ⟨bl BK417.out⟩, ⟨bl BK418.out⟩, ⟨by exact bb HB.out⟩⟩
  replace c11 := Bool.eq_false_iff.mpr c11;subst c11;rw [if_neg (show ¬ (false = true) by decide)] at H;have H' := Aside0.mk H;clear H;have hnb15 := NB417_418.out;have hnc15 := NB418_417.out;obtain ⟨hcz16_0, hcz16_1, hfz16_0, hfz16_1⟩ := c2 BK417;go_wp2_with (first | ((with_reducible refine gate_callee (f := 16) rfl ?_); refine goesL_ (some 11) rfl rfl Try.func16 (by kernel_rfl) rfl #[.agg #[.int .i64 a0_0, .slice A0_1 l0_1.length c0_1]] rfl (by (try simp only [List.map_toArray, List.map_cons, List.map_nil]); first | done | rfl | (simp only [List.length_drop, List.length_take]; rfl)) ?_; (with_reducible refine (impl_CatOk.calls k a0_0 _ _ l0_1 false _ ?side1 ?side2 A10.out).mono ?_); (case side1 => repeat (first | exact (Kd.C_below HR0_1.out HB.out) | (with_reducible refine Kd.C_alloc ?_ _) | (with_reducible refine Kd.C_drewN ?_ _) | (with_reducible refine Kd.C_drew ?_))); (case side2 => exact HC0_1.out); rintro e w17 ⟨rfl, hb⟩; refine ⟨_, rfl, ?_⟩; replace BK417 := kb BK417 hb; replace BK418 := kb BK418 hb; replace HB := hbb HB hb; (try clear hb); (try clear hb2); (try clear hk); (try clear hi)))
  go_meet
  case rel => exact ⟨_, (true), (by first | rfl | (simp; done) | (simp [*]; done)), H', ⟨by first | omega | exact Nat.le_refl _⟩, ⟨bl BK417.out⟩, ⟨bl BK418.out⟩, ⟨by exact bb HB.out⟩⟩
 case rest =>
  clear HC4;try clear c1
  try clear p2
  try clear c3
  try clear c7
  try clear c11
  try clear c12
  try clear c15
  try clear c16
  try clear hcz13_0
  try clear hcz13_1
  try clear hcz16_0
  try clear hcz16_1
  try clear hcz8_0
  try clear hcz8_1
  try clear hfz13_0
  try clear hfz13_1
  try clear hfz16_0
  try clear hfz16_1
  try clear hfz8_0
  try clear hfz8_1
  obtain ⟨kq, x16_3, rfl, HA, HJ3, BK417, BK418, HB⟩ := hcut
  cases kq with
  | zero => exact absurd HA.out (by simp [impl_CatEdition.j0])
  | succ kj3 =>
   have H := HA.out;clear HA;simp only [impl_CatEdition.j0] at H
   by_cases c18 : x16_3 = true
   ·subst c18;rw [if_pos rfl] at H;simp only [Option.some.injEq, Prod.mk.injEq] at H;obtain ⟨rfl, rfl, rfl, rfl, rfl⟩ := H;have hnb19 := NB418_417.out;have hnc19 := NB417_418.out;obtain ⟨hcz20_0, hcz20_1, hcz20_2, hcz20_3, hfz20_0, hfz20_1, hfz20_2, hfz20_3⟩ := c4 BK418;go_wp2;refine bodyPost_ret (results_ct rfl _ _ gb418 38 #[.int .i64 0, .string (⟨#[]⟩ : ByteArray), .int .i64 0, .string (⟨#[]⟩ : ByteArray)] (0, 0) _ rfl (bp BK418.out (by rfl)) Try.underlying38 rfl (by kernel_rfl)) rfl ?_;exact ⟨by first | rfl | (simp [errW_none, errW_some] <;> rfl) | (simp [*, errW_none, errW_some] <;> rfl), by exact bbx (a := gb418) HB.out GE418.out⟩
   replace c18 := Bool.eq_false_iff.mpr c18;subst c18;rw [if_neg (show ¬ (false = true) by decide)] at H
   by_cases c21 : 0 ≤ t419
   ·rw [if_pos c21] at H;have c21b0 : decide (0 ≤ t419) = true := decide_eq_true c21;clear c21
    by_cases c22 : t419 < (l0_1.length : Int)
    ·rw [if_pos c22] at H;have c22b0 : decide (t419 < (l0_1.length : Int)) = true := decide_eq_true c22;clear c22;simp only [Option.some.injEq, Prod.mk.injEq] at H;obtain ⟨rfl, rfl, rfl, rfl, rfl⟩ := H;have hnb23 := NB417_418.out;have hnc23 := NB418_417.out;obtain ⟨hcz24_0, hcz24_1, hfz24_0, hfz24_1⟩ := c2 BK417;have p421 : 0 ≤ (t419 : Int) := of_decide_eq_true (by first | (with_reducible assumption) | assumption);have q421 : t419 < (l0_1.length : Int) := of_decide_eq_true (by first | (with_reducible assumption) | assumption);obtain ⟨ad421, e421, hx421_0, hx421_1, hx421_2, hx421_3⟩ := at_T38 HR0_1.out t419 p421 q421
     cases e421
     replace hx421_0 := (HB.out.cell (World.block_lt_of_cell? w _ hx421_0)).trans hx421_0;replace hx421_1 := (HB.out.cell (World.block_lt_of_cell? w _ hx421_1)).trans hx421_1;replace hx421_2 := (HB.out.cell (World.block_lt_of_cell? w _ hx421_2)).trans hx421_2;replace hx421_3 := (HB.out.cell (World.block_lt_of_cell? w _ hx421_3)).trans hx421_3;replace p421 := eq_true p421;replace q421 := eq_true q421;obtain ⟨hcz25_0, hcz25_1, hcz25_2, hcz25_3, hfz25_0, hfz25_1, hfz25_2, hfz25_3⟩ := c4 BK418;go_wp2;refine bodyPost_ret (results_ct rfl _ _ gb418 38 #[.int .i64 ((rd_T38 l0_1 t419).f0), .string ((rd_T38 l0_1 t419).f1), .int .i64 ((rd_T38 l0_1 t419).f2), .string ((rd_T38 l0_1 t419).f3)] (0, 0) _ rfl (bp BK418.out (by rfl)) Try.underlying38 rfl (by kernel_rfl)) rfl ?_;exact ⟨by first | rfl | (simp [errW_none, errW_some] <;> rfl) | (simp [*, errW_none, errW_some] <;> rfl), by exact bbx (a := gb418) HB.out GE418.out⟩
    rw [if_neg c22] at H;exact absurd H (by simp)
   rw [if_neg c21] at H;exact absurd H (by simp)
mutual
def laws_FnCatTake.j0 : Nat → Int → ByteArray → Int → Int → Bool → Int → List (S38) → Int → List (S38) → Int → List (S38) → Option (Bool)
 | 0, _, _, _, _, _, _, _, _, _, _, _ => none
 | k + 1, x4, x5, x7, x9, x58, x429000, x429001, x435000, x435001, x441000, x441001 => if x58 = true then (if x7 = x9 then ((laws_whCat.f k x435000 x435001 x441000 x441001).bind fun t442 => (some t442)) else (some false)) else ((impl_CatGet.f k x429000 x429001 x4 x5).bind fun bt443 => ((impl_CatGet.f k x435000 x435001 x4 x5).bind fun bt449 => ((impl_CatEdition.f k x435000 x435001 bt443.2.2.1).bind fun bt455 => ((impl_CatPut.f k x435000 x435001 x4 x5 bt443.2.2.2.1).bind fun bt461 => ((impl_CatGet.f k bt461.1 bt461.2.1 x4 x5).bind fun bt467 => (laws_FnCatTake.l0 k bt449.2.2.2.2 bt455.2.2.2.2 bt461.2.2 bt467.2.2.2.2 0 x429000 x429001 x435000 x435001 bt443.1 bt443.2.1 bt443.2.2.1 bt443.2.2.2.1 bt467.1 bt467.2.1 bt467.2.2.1 bt467.2.2.2.1))))))
def laws_FnCatTake.l0 : Nat → Bool → Bool → Int → Bool → Int → Int → List (S38) → Int → List (S38) → Int → ByteArray → Int → ByteArray → Int → ByteArray → Int → ByteArray → Option (Bool)
 | 0, _, _, _, _, _, _, _, _, _, _, _, _, _, _, _, _, _ => none
 | k + 1, x13, x15, x17, x19, x20, x429000, x429001, x435000, x435001, x449000, x449001, x449002, x449003, x473000, x473001, x473002, x473003 => if x20 < (x435001.length : Int) then (if 0 ≤ x20 then ((impl_CatEdition.f k x429000 x429001 ((rd_T38 x435001 x20).f2)).bind fun bt474 => (if bt474.2.2.2.2 = true then (laws_FnCatTake.j2 k x13 x15 x17 x19 x20 (!(bt474.1 == ((rd_T38 x435001 x20).f0)) || (!(bt474.2.1.toList == (((rd_T38 x435001 x20).f1).toList)) || (!(bt474.2.2.1 == ((rd_T38 x435001 x20).f2)) || (!(bt474.2.2.2.1.toList == (((rd_T38 x435001 x20).f3).toList)))))) x429000 x429001 x435000 x435001 x449000 x449001 x449002 x449003 x473000 x473001 x473002 x473003) else (laws_FnCatTake.j2 k x13 x15 x17 x19 x20 true x429000 x429001 x435000 x435001 x449000 x449001 x449002 x449003 x473000 x473001 x473002 x473003))) else (none)) else (if x13 = true then (laws_FnCatTake.j3 k false) else (if x15 = true then (laws_FnCatTake.j3 k false) else ((impl_CatOk.f k x435000 x435001).bind fun t481 => (if t481 = true then (if x435000 = x429000 then (if x17 = 0 then (if x19 = true then (if x473003.toList = x449003.toList then (laws_FnCatTake.j3 k (decide (x473002 > x449002))) else (laws_FnCatTake.j3 k false)) else (laws_FnCatTake.j3 k false)) else (laws_FnCatTake.j3 k true)) else (laws_FnCatTake.j3 k false)) else (laws_FnCatTake.j3 k false)))))
def laws_FnCatTake.j2 : Nat → Bool → Bool → Int → Bool → Int → Bool → Int → List (S38) → Int → List (S38) → Int → ByteArray → Int → ByteArray → Int → ByteArray → Int → ByteArray → Option (Bool)
 | 0, _, _, _, _, _, _, _, _, _, _, _, _, _, _, _, _, _, _ => none
 | k + 1, x13, x15, x17, x19, x20, x132, x429000, x429001, x435000, x435001, x449000, x449001, x449002, x449003, x473000, x473001, x473002, x473003 => if x132 = true then (some false) else (laws_FnCatTake.l0 k x13 x15 x17 x19 (wrap64 (x20 + 1)) x429000 x429001 x435000 x435001 x449000 x449001 x449002 x449003 x473000 x473001 x473002 x473003)
def laws_FnCatTake.j3 : Nat → Bool → Option (Bool)
 | 0, _ => none
 | k + 1, x2 => some x2
end
def laws_FnCatTake.f (k : Nat) (l0 : List Int) : Option (Bool) := if (l0.length : Int) > 1048576 then (some true) else ((spec_DrawCatTake.f k l0).bind fun bt422 => ((impl_CatTake.f k bt422.1 bt422.2.1 bt422.2.2.1 bt422.2.2.2).bind fun bt429 => ((spec_CatTake.f k bt422.1 bt422.2.1 bt422.2.2.1 bt422.2.2.2).bind fun bt435 => (if bt429.2.2 = bt435.2.2 then ((laws_whCat.f k bt429.1 bt429.2.1 bt435.1 bt435.2.1).bind fun t441 => (if t441 = true then (laws_FnCatTake.j0 k bt422.2.2.1 bt422.2.2.2 bt429.2.2 bt435.2.2 (bt429.2.2 != 0) bt422.1 bt422.2.1 bt429.1 bt429.2.1 bt435.1 bt435.2.1) else (laws_FnCatTake.j0 k bt422.2.2.1 bt422.2.2.2 bt429.2.2 bt435.2.2 true bt422.1 bt422.2.1 bt429.1 bt429.2.1 bt435.1 bt435.2.1))) else (laws_FnCatTake.j0 k bt422.2.2.1 bt422.2.2.2 bt429.2.2 bt435.2.2 true bt422.1 bt422.2.1 bt429.1 bt429.2.1 bt435.1 bt435.2.1)))))
theorem laws_FnCatTake.mono_l : ∀ k, (∀ y0 y1 y2 y3 y4 y5 y6 y7 y8 y9 y10, LeO (laws_FnCatTake.j0 k y0 y1 y2 y3 y4 y5 y6 y7 y8 y9 y10) (laws_FnCatTake.j0 (k + 1) y0 y1 y2 y3 y4 y5 y6 y7 y8 y9 y10)) ∧ (∀ y0 y1 y2 y3 y4 y5 y6 y7 y8 y9 y10 y11 y12 y13 y14 y15 y16, LeO (laws_FnCatTake.l0 k y0 y1 y2 y3 y4 y5 y6 y7 y8 y9 y10 y11 y12 y13 y14 y15 y16) (laws_FnCatTake.l0 (k + 1) y0 y1 y2 y3 y4 y5 y6 y7 y8 y9 y10 y11 y12 y13 y14 y15 y16)) ∧ (∀ y0 y1 y2 y3 y4 y5 y6 y7 y8 y9 y10 y11 y12 y13 y14 y15 y16 y17, LeO (laws_FnCatTake.j2 k y0 y1 y2 y3 y4 y5 y6 y7 y8 y9 y10 y11 y12 y13 y14 y15 y16 y17) (laws_FnCatTake.j2 (k + 1) y0 y1 y2 y3 y4 y5 y6 y7 y8 y9 y10 y11 y12 y13 y14 y15 y16 y17)) ∧ (∀ y0, LeO (laws_FnCatTake.j3 k y0) (laws_FnCatTake.j3 (k + 1) y0))
 | 0 => ⟨fun _ _ _ _ _ _ _ _ _ _ _ r h => by simp [laws_FnCatTake.j0] at h, fun _ _ _ _ _ _ _ _ _ _ _ _ _ _ _ _ _ r h => by simp [laws_FnCatTake.l0] at h, fun _ _ _ _ _ _ _ _ _ _ _ _ _ _ _ _ _ _ r h => by simp [laws_FnCatTake.j2] at h, fun _ r h => by simp [laws_FnCatTake.j3] at h⟩
 | k + 1 => by
  obtain ⟨ih0, ih1, ih2, ih3⟩ := laws_FnCatTake.mono_l k;refine ⟨?_, ?_, ?_, ?_⟩;intro y0 y1 y2 y3 y4 y5 y6 y7 y8 y9 y10; unfold laws_FnCatTake.j0; rotate_left
  intro y0 y1 y2 y3 y4 y5 y6 y7 y8 y9 y10 y11 y12 y13 y14 y15 y16; unfold laws_FnCatTake.l0; rotate_left
  intro y0 y1 y2 y3 y4 y5 y6 y7 y8 y9 y10 y11 y12 y13 y14 y15 y16 y17; unfold laws_FnCatTake.j2; rotate_left
  intro y0; unfold laws_FnCatTake.j3; rotate_left
  all_goals repeat' first
   | (with_reducible exact ih0 _ _ _ _ _ _ _ _ _ _ _)
   | (with_reducible exact ih1 _ _ _ _ _ _ _ _ _ _ _ _ _ _ _ _ _)
   | (with_reducible exact ih2 _ _ _ _ _ _ _ _ _ _ _ _ _ _ _ _ _ _)
   | (with_reducible exact ih3 _)
   | (with_reducible exact impl_CatEdition.mono _ _ _ _)
   | (with_reducible exact impl_CatGet.mono _ _ _ _ _)
   | (with_reducible exact impl_CatOk.mono _ _ _)
   | (with_reducible exact impl_CatPut.mono _ _ _ _ _ _)
   | (with_reducible exact impl_CatTake.mono _ _ _ _ _)
   | (with_reducible exact laws_whCat.mono _ _ _ _ _)
   | (with_reducible exact spec_CatTake.mono _ _ _ _ _)
   | (with_reducible exact spec_DrawCatTake.mono _ _)
   | (with_reducible exact LeO.refl _)
   | (with_reducible exact LeO.none _)
   | (with_reducible refine LeO.ite ?_ ?_)
   | (with_reducible refine LeO.bind ?_ (fun _ => ?_))
   | exact LeO.none _
   | refine LeO.ite ?_ ?_
   | refine LeO.bind ?_ (fun _ => ?_)
theorem laws_FnCatTake.mono : ∀ a0 k, LeO (laws_FnCatTake.f k a0) (laws_FnCatTake.f (k + 1) a0) := by
 intro a0 k;obtain ⟨ih0, ih1, ih2, ih3⟩ := laws_FnCatTake.mono_l k;unfold laws_FnCatTake.f
 repeat' first
   | (with_reducible exact ih0 _ _ _ _ _ _ _ _ _ _ _)
   | (with_reducible exact ih1 _ _ _ _ _ _ _ _ _ _ _ _ _ _ _ _ _)
   | (with_reducible exact ih2 _ _ _ _ _ _ _ _ _ _ _ _ _ _ _ _ _ _)
   | (with_reducible exact ih3 _)
   | (with_reducible exact impl_CatEdition.mono _ _ _ _)
   | (with_reducible exact impl_CatGet.mono _ _ _ _ _)
   | (with_reducible exact impl_CatOk.mono _ _ _)
   | (with_reducible exact impl_CatPut.mono _ _ _ _ _ _)
   | (with_reducible exact impl_CatTake.mono _ _ _ _ _)
   | (with_reducible exact laws_whCat.mono _ _ _ _ _)
   | (with_reducible exact spec_CatTake.mono _ _ _ _ _)
   | (with_reducible exact spec_DrawCatTake.mono _ _)
   | (with_reducible exact LeO.refl _)
   | (with_reducible exact LeO.none _)
   | (with_reducible refine LeO.ite ?_ ?_)
   | (with_reducible refine LeO.bind ?_ (fun _ => ?_))
   | exact LeO.none _
   | refine LeO.ite ?_ ?_
   | refine LeO.bind ?_ (fun _ => ?_)
def laws_FnCatTake.T16 : Bool × List (List Nat × List Nat) := (true, [([], []), ([], []), ([1], [1]), ([], []), ([2, 3], [2, 3]), ([4], [4]), ([5], [5]), ([0, 6], [0, 6]), ([7], [7]), ([8], [8]), ([8], [8]), ([], []), ([11, 9, 7, 0, 1, 2, 3, 4, 5, 6, 7, 8, 9, 11], [9, 11]), ([10, 12, 0, 1, 2, 3, 4, 5, 6, 7, 8, 9, 10, 11, 12], [10])])
def laws_FnCatTake.B16 : List Nat := [0, 0, 2, 0, 14, 30, 62, 127, 255, 511, 511, 0, 3071, 8191]
theorem laws_FnCatTake.tab16 : rtab .any (opsOf Try.f4 16) = laws_FnCatTake.T16 := by kernel_rfl
theorem laws_FnCatTake.bits16 : waitsOk laws_FnCatTake.T16.2 laws_FnCatTake.B16 = true := by kernel_rfl
def laws_FnCatTake.T17 : Bool × List (List Nat × List Nat) := (true, [([], []), ([0], [0]), ([1], [1]), ([2], [2]), ([2], [2]), ([4, 2], [2, 4]), ([2], [2]), ([5, 6, 2], [2, 5, 6]), ([7, 2], [2, 7]), ([3, 8, 2], [2, 3, 8]), ([2, 9], [2, 9])])
def laws_FnCatTake.B17 : List Nat := [0, 1, 3, 7, 7, 23, 7, 119, 247, 511, 1023]
theorem laws_FnCatTake.tab17 : rtab .any (opsOf Try.f4 17) = laws_FnCatTake.T17 := by kernel_rfl
theorem laws_FnCatTake.bits17 : waitsOk laws_FnCatTake.T17.2 laws_FnCatTake.B17 = true := by kernel_rfl
set_option maxHeartbeats 8000000 in
set_option maxRecDepth 100000 in
theorem laws_FnCatTake.calls (k : Nat) (A0 : Option Addr) (c0 : Nat) (l0 : List Int) (r : Bool) (w : World) (hr0 : Kd.C (Kd.int .u8) w A0 l0.length l0) (hc0 : l0.length ≤ c0) (h : laws_FnCatTake.f k l0 = some r) :
  Calls Try.prog 4 #[.slice A0 l0.length c0] w fun e w' => e = .returned (.bool r) ∧ Below w.heap.size w w' := by
 have hu25 := Try.underlying25;have hu38 := Try.underlying38;have HR0 := Aside0.mk hr0;have HC0 := Aside0.mk hc0;clear hr0 hc0;have HB := Aside0.mk (Below.refl w.heap.size w);have H : (if (l0.length : Int) > 1048576 then (some true) else ((spec_DrawCatTake.f k l0).bind fun bt422 => ((impl_CatTake.f k bt422.1 bt422.2.1 bt422.2.2.1 bt422.2.2.2).bind fun bt429 => ((spec_CatTake.f k bt422.1 bt422.2.1 bt422.2.2.1 bt422.2.2.2).bind fun bt435 => (if bt429.2.2 = bt435.2.2 then ((laws_whCat.f k bt429.1 bt429.2.1 bt435.1 bt435.2.1).bind fun t441 => (if t441 = true then (laws_FnCatTake.j0 k bt422.2.2.1 bt422.2.2.2 bt429.2.2 bt435.2.2 (bt429.2.2 != 0) bt422.1 bt422.2.1 bt429.1 bt429.2.1 bt435.1 bt435.2.1) else (laws_FnCatTake.j0 k bt422.2.2.1 bt422.2.2.2 bt429.2.2 bt435.2.2 true bt422.1 bt422.2.1 bt429.1 bt429.2.1 bt435.1 bt435.2.1))) else (laws_FnCatTake.j0 k bt422.2.2.1 bt422.2.2.2 bt429.2.2 bt435.2.2 true bt422.1 bt422.2.1 bt429.1 bt429.2.1 bt435.1 bt435.2.1)))))) = some r := h;clear h
 by_cases c2 : (l0.length : Int) > 1048576
 ·rw [if_pos c2] at H;have c2b0 : decide (1048576 < (l0.length : Int)) = true := decide_eq_true c2;have c2b1 : decide (1048576 < l0.length) = true := decide_eq_true (by omega);clear c2;obtain rfl := Option.some.inj H
  go_enter Try.func4, Try.ntmps4
  go_wp2;go_ret;exact ⟨by first | rfl | (simp [errW_none, errW_some] <;> rfl) | (simp [*, errW_none, errW_some] <;> rfl), by exact bb HB.out⟩
 ·rw [if_neg c2] at H;have c2b0 : decide (1048576 < (l0.length : Int)) = false := decide_eq_false c2;have c2b1 : decide (1048576 < l0.length) = false := decide_eq_false (by omega);clear c2;replace H := Option.bind_eq_some_iff.mp H;obtain ⟨⟨t422, t423, t426, t427⟩, A30, H⟩ := H;replace H : ((impl_CatTake.f k t422 t423 t426 t427).bind fun bt429 => ((spec_CatTake.f k t422 t423 t426 t427).bind fun bt435 => (if bt429.2.2 = bt435.2.2 then ((laws_whCat.f k bt429.1 bt429.2.1 bt435.1 bt435.2.1).bind fun t441 => (if t441 = true then (laws_FnCatTake.j0 k t426 t427 bt429.2.2 bt435.2.2 (bt429.2.2 != 0) t422 t423 bt429.1 bt429.2.1 bt435.1 bt435.2.1) else (laws_FnCatTake.j0 k t426 t427 bt429.2.2 bt435.2.2 true t422 t423 bt429.1 bt429.2.1 bt435.1 bt435.2.1))) else (laws_FnCatTake.j0 k t426 t427 bt429.2.2 bt435.2.2 true t422 t423 bt429.1 bt429.2.1 bt435.1 bt435.2.1)))) = some r := H;have A3 := Aside0.mk A30;clear A30;replace H := Option.bind_eq_some_iff.mp H;obtain ⟨⟨t429, t430, t433⟩, A40, H⟩ := H;replace H : ((spec_CatTake.f k t422 t423 t426 t427).bind fun bt435 => (if t433 = bt435.2.2 then ((laws_whCat.f k t429 t430 bt435.1 bt435.2.1).bind fun t441 => (if t441 = true then (laws_FnCatTake.j0 k t426 t427 t433 bt435.2.2 (t433 != 0) t422 t423 t429 t430 bt435.1 bt435.2.1) else (laws_FnCatTake.j0 k t426 t427 t433 bt435.2.2 true t422 t423 t429 t430 bt435.1 bt435.2.1))) else (laws_FnCatTake.j0 k t426 t427 t433 bt435.2.2 true t422 t423 t429 t430 bt435.1 bt435.2.1))) = some r := H;have A4 := Aside0.mk A40;clear A40;replace H := Option.bind_eq_some_iff.mp H;obtain ⟨⟨t435, t436, t439⟩, A50, H⟩ := H;replace H : (if t433 = t439 then ((laws_whCat.f k t429 t430 t435 t436).bind fun t441 => (if t441 = true then (laws_FnCatTake.j0 k t426 t427 t433 t439 (t433 != 0) t422 t423 t429 t430 t435 t436) else (laws_FnCatTake.j0 k t426 t427 t433 t439 true t422 t423 t429 t430 t435 t436))) else (laws_FnCatTake.j0 k t426 t427 t433 t439 true t422 t423 t429 t430 t435 t436)) = some r := H;have A5 := Aside0.mk A50;clear A50;have HC6 := Aside0.mk H;clear H
  go_enter Try.func4, Try.ntmps4
  go_upto_region 6 with (first | ((with_reducible refine gate_callee (f := 12) rfl ?_); refine goesL_ (some 28) rfl rfl Try.func12 (by kernel_rfl) rfl #[.slice A0 l0.length c0] rfl (by (try simp only [List.map_toArray, List.map_cons, List.map_nil]); first | done | rfl | (simp only [List.length_drop, List.length_take]; rfl)) ?_; (with_reducible refine (spec_DrawCatTake.calls k _ _ l0 t422 t423 t426 t427 _ ?side1 ?side2 A3.out).mono ?_); (case side1 => repeat (first | exact HR0.out | (with_reducible refine Kd.C_alloc ?_ _) | (with_reducible refine Kd.C_drewN ?_ _) | (with_reducible refine Kd.C_drew ?_))); (case side2 => exact HC0.out); rintro e w7 ⟨v424, rfl, ho0, hb⟩; refine ⟨_, rfl, ?_⟩; have HO425 := Aside0.mk (Kd.R_lower ho0 (below_size (by exact bb HB.out))); replace HB := hbb HB hb; (try clear hb); (try clear hb2); (try clear hk); (try clear hi); (try clear ho0)) | ((with_reducible refine gate_dst (N := 3) rfl ?_); refine box_event ?hg (N := 3) ?hd (cs := #[.int .i64 0, .slice none 0 0]) (t := 25) ?hr ?_; (case hd => rfl); (case hg => rfl); (case hr => first | (go_simp; done) | (go_simp; rfl)); intro gb428 hg w8 hbox hb; have BK428 := Aside0.mk (hbox); have GW428 := gw HB hg; have GE428 := gw HB hg; replace HO425 := Kd.rR HO425 hb; replace HB := hbb HB hb; clear hb hbox hg; obtain ⟨hcz9_0, hcz9_1, hfz9_0, hfz9_1⟩ := c2 BK428; obtain ⟨Ao10, co10, eo10⟩ := Kd.R_slice HO425.out; subst eo10) | ((with_reducible refine gate_callee (f := 10) rfl ?_); refine goesL_ (some 36) rfl rfl Try.func10 (by kernel_rfl) rfl #[.agg #[.int .i64 t422, .slice Ao10 t423.length co10], .int .i64 t426, .string t427] rfl (by (try simp only [List.map_toArray, List.map_cons, List.map_nil]); first | done | rfl | (simp only [List.length_drop, List.length_take]; rfl)) ?_; (with_reducible refine (impl_CatTake.calls k t422 _ _ t423 t426 t427 t429 t430 t433 _ ?side1 ?side2 A4.out).mono ?_); (case side1 => refine (Kd.R_reads' (e := 38) (base := w.heap.size) (ok := fun k_ => True) (n := t423.length) (c := co10) ?_).2.2; exact (by exact (Kd.R_mono (Kd.R_lax (g := gb428) (Kd.R_types HO425.out BK428.out (by decide)) (fun _ hk => hk.2)) (fun _ h_ => h_.1)))); (case side2 => exact (Kd.R_reads' HO425.out).2.1); rintro e w11 ⟨v431, rfl, ho0, hb⟩; refine ⟨_, rfl, ?_⟩; have HO432 := Aside0.mk (Kd.R_lower (Kd.R_new' ho0 (Kd.R_lt (by exact (Kd.R_mono (Kd.R_lax (g := gb428) (Kd.R_types HO425.out BK428.out (by decide)) (fun _ hk => hk.2)) (fun _ h_ => h_.1))))) (below_size (by exact bbx (a := gb428) HB.out GE428.out))); replace HO425 := Aside0.mk (Kd.R_elder' (by exact (Kd.R_mono (Kd.R_lax (g := gb428) (Kd.R_types HO425.out BK428.out (by decide)) (fun _ hk => hk.2)) (fun _ h_ => h_.1))) (Kd.R_base ho0) hb); replace BK428 := Aside0.mk (blk_below (o := .cells #[.int .i64 t422, .slice Ao10 t423.length co10] 25 (0, 0)) (bp BK428.out (by rfl)) hb); replace HB := hbx (a := gb428) HB GE428 hb; (try clear hb); (try clear hb2); (try clear hk); (try clear hi); (try clear ho0)) | ((with_reducible refine gate_dst (N := 6) rfl ?_); refine box_event ?hg (N := 6) ?hd (cs := #[.int .i64 0, .slice none 0 0]) (t := 25) ?hr ?_; (case hd => rfl); (case hg => rfl); (case hr => first | (go_simp; done) | (go_simp; rfl)); intro gb434 hg w12 hbox hb; have BK434 := Aside0.mk (hbox); have GW434 := gw HB hg; have GE434 := gw HB hg; have NB428_434 := nl BK428 hg; have NB434_428 := ng BK428 hg; replace HO425 := Kd.rR HO425 hb; replace HO432 := Kd.rR HO432 hb; replace BK428 := kb BK428 hb; replace HB := hbb HB hb; clear hb hbox hg; have hnb13 := NB434_428.out; have hnc13 := NB428_434.out; obtain ⟨hcz14_0, hcz14_1, hfz14_0, hfz14_1⟩ := c2 BK434; obtain ⟨Ao15, co15, eo15⟩ := Kd.R_slice HO432.out; subst eo15; obtain ⟨hcz16_0, hcz16_1, hfz16_0, hfz16_1⟩ := c2 BK428) | ((with_reducible refine gate_callee (f := 13) rfl ?_); refine goesL_ (some 43) rfl rfl Try.func13 (by kernel_rfl) rfl #[.agg #[.int .i64 t422, .slice Ao10 t423.length co10], .int .i64 t426, .string t427] rfl (by (try simp only [List.map_toArray, List.map_cons, List.map_nil]); first | done | rfl | (simp only [List.length_drop, List.length_take]; rfl)) ?_; (with_reducible refine (spec_CatTake.calls k t422 _ _ t423 t426 t427 t435 t436 t439 _ ?side1 ?side2 A5.out).mono ?_); (case side1 => refine (Kd.R_reads' (e := 38) (base := w.heap.size) (ok := fun k_ => (True ∧ some k_ ≠ (.slice Ao15 t430.length co15 : Value).ownBlock)) (n := t423.length) (c := co10) ?_).2.2; exact (by exact (Kd.R_mono (Kd.R_lax (g := gb434) (Kd.R_types HO425.out BK434.out (by decide)) (fun _ hk => hk.2)) (fun _ h_ => h_.1)))); (case side2 => exact (Kd.R_reads' HO425.out).2.1); rintro e w17 ⟨v437, rfl, ho0, hb⟩; refine ⟨_, rfl, ?_⟩; have HO438 := Aside0.mk (Kd.R_lower (Kd.R_new' (Kd.R_new' ho0 (Kd.R_lt (by exact (Kd.R_mono (Kd.R_lax (g := gb434) (Kd.R_types HO425.out BK434.out (by decide)) (fun _ hk => hk.2)) (fun _ h_ => h_.1))))) (Kd.R_lt (by exact (Kd.R_mono (Kd.R_lax (g := gb434) (Kd.R_types HO432.out BK434.out (by decide)) (fun _ hk => hk.2)) (fun _ h_ => h_.1))))) (below_size (by exact bbx (a := gb434) HB.out GE434.out))); replace HO425 := Aside0.mk (Kd.R_elder' (by exact (Kd.R_mono (Kd.R_lax (g := gb434) (Kd.R_types HO425.out BK434.out (by decide)) (fun _ hk => hk.2)) (fun _ h_ => h_.1))) (Kd.R_base ho0) hb); replace HO432 := Aside0.mk (Kd.R_elder' (by exact (Kd.R_mono (Kd.R_lax (g := gb434) (Kd.R_types HO432.out BK434.out (by decide)) (fun _ hk => hk.2)) (fun _ h_ => h_.1))) (Kd.R_base ho0) hb); replace BK428 := kbx (a := gb434) BK428 NB428_434 hb; replace BK434 := Aside0.mk (blk_below (o := .cells #[.int .i64 t429, .slice Ao15 t430.length co15] 25 (0, 0)) (bp BK434.out (by rfl)) hb); replace HB := hbx (a := gb434) HB GE434 hb; (try clear hb); (try clear hb2); (try clear hk); (try clear hi); (try clear ho0)) | ((with_reducible refine gate_dst (N := 8) rfl ?_); refine box_event ?hg (N := 8) ?hd (cs := #[.int .i64 0, .slice none 0 0]) (t := 25) ?hr ?_; (case hd => rfl); (case hg => rfl); (case hr => first | (go_simp; done) | (go_simp; rfl)); intro gb440 hg w18 hbox hb; have BK440 := Aside0.mk (hbox); have GW440 := gw HB hg; have GE440 := gw HB hg; have NB428_440 := nl BK428 hg; have NB440_428 := ng BK428 hg; have NB434_440 := nl BK434 hg; have NB440_434 := ng BK434 hg; replace HO425 := Kd.rR HO425 hb; replace HO432 := Kd.rR HO432 hb; replace HO438 := Kd.rR HO438 hb; replace BK428 := kb BK428 hb; replace BK434 := kb BK434 hb; replace HB := hbb HB hb; clear hb hbox hg; have hnb19 := NB440_428.out; have hnc19 := NB428_440.out; have hnb20 := NB440_434.out; have hnc20 := NB434_440.out; obtain ⟨hcz21_0, hcz21_1, hfz21_0, hfz21_1⟩ := c2 BK440; obtain ⟨Ao22, co22, eo22⟩ := Kd.R_slice HO438.out; subst eo22))
  (try simp only [Act.put, sB, s0, s1])
  go_cut [58] (fun v58 wc => ∃ (kq : Nat) (x58_5 : Bool), v58 = .bool x58_5 ∧ Aside0 (laws_FnCatTake.j0 kq t426 t427 t433 t439 x58_5 t422 t423 t429 t430 t435 t436 = some r) ∧ Aside0 (kq ≤ k) ∧ Aside0 (Kd.R k38 38 wc w.heap.size (fun k_ => some k_ ≠ ((.slice Ao15 t430.length co15) : Value).ownBlock ∧ some k_ ≠ ((.slice Ao22 t436.length co22) : Value).ownBlock) (.slice Ao10 t423.length co10) t423) ∧ Aside0 (Kd.R k38 38 wc w.heap.size (fun k_ => some k_ ≠ ((.slice Ao10 t423.length co10) : Value).ownBlock ∧ some k_ ≠ ((.slice Ao22 t436.length co22) : Value).ownBlock) (.slice Ao15 t430.length co15) t430) ∧ Aside0 (Kd.R k38 38 wc w.heap.size (fun k_ => some k_ ≠ ((.slice Ao10 t423.length co10) : Value).ownBlock ∧ some k_ ≠ ((.slice Ao15 t430.length co15) : Value).ownBlock) (.slice Ao22 t436.length co22) t436) ∧ Aside0 (wc.heap[gb428]? = some (.cells #[.int .i64 t422, (.slice Ao10 t423.length co10)] 25 (0, 0))) ∧ Aside0 (wc.heap[gb434]? = some (.cells #[.int .i64 t429, (.slice Ao15 t430.length co15)] 25 (0, 0))) ∧ Aside0 (wc.heap[gb440]? = some (.cells #[.int .i64 t435, (.slice Ao22 t436.length co22)] 25 (0, 0))) ∧ Aside0 (Below w.heap.size w wc))
  case first =>
   have H := HC6.out;clear HC6
   by_cases c23 : t433 = t439
   ·rw [if_pos c23] at H;have c23b0 : (t433 == t439) = true := beq_iff_eq.mpr c23;have c23b1 : (t433 != t439) = false := bne_eq_false_iff_eq.mpr c23;clear c23
    (first | rw [c23b0] | (simp only [i64_w, i32_w]; rw [c23b0]) | skip)
    replace H := Option.bind_eq_some_iff.mp H;obtain ⟨t441, A240, H⟩ := H;have A24 := Aside0.mk A240;clear A240
    by_cases c25 : t441 = true
    ·subst c25;rw [if_pos rfl] at H;have H' := Aside0.mk H;clear H;have hnb26 := NB434_428.out;have hnc26 := NB428_434.out;have hnb27 := NB434_440.out;have hnc27 := NB440_434.out;obtain ⟨hcz28_0, hcz28_1, hfz28_0, hfz28_1⟩ := c2 BK434;have hnb29 := NB440_428.out;have hnc29 := NB428_440.out;obtain ⟨hcz30_0, hcz30_1, hfz30_0, hfz30_1⟩ := c2 BK440;go_wp2_with (first | (go_at_call 8; (with_reducible refine (laws_whCat.calls k t429 _ _ t430 t435 _ _ t436 true _ ?side1 ?side2 ?side3 ?side4 A24.out).mono ?_); (case side1 => refine (Kd.R_reads' (e := 38) (base := w.heap.size) (ok := fun k_ => ((True ∧ some k_ ≠ (.slice Ao10 t423.length co10 : Value).ownBlock) ∧ some k_ ≠ (.slice Ao22 t436.length co22 : Value).ownBlock)) (n := t430.length) (c := co15) ?_).2.2; exact (by exact (Kd.R_mono (Kd.R_lax (g := gb440) (Kd.R_types HO432.out BK440.out (by decide)) (fun _ hk => hk.2)) (fun _ h_ => h_.1)))); (case side2 => exact (Kd.R_reads' HO432.out).2.1); (case side3 => refine (Kd.R_reads' (e := 38) (base := w.heap.size) (ok := fun k_ => ((True ∧ some k_ ≠ (.slice Ao10 t423.length co10 : Value).ownBlock) ∧ some k_ ≠ (.slice Ao15 t430.length co15 : Value).ownBlock)) (n := t436.length) (c := co22) ?_).2.2; exact (by exact (Kd.R_mono (Kd.R_lax (g := gb440) (Kd.R_types HO438.out BK440.out (by decide)) (fun _ hk => hk.2)) (fun _ h_ => h_.1)))); (case side4 => exact (Kd.R_reads' HO438.out).2.1); rintro e w31 ⟨rfl, hb⟩; replace HO425 := Aside0.mk (Kd.R_below (by exact (Kd.R_mono (Kd.R_lax (g := gb440) (Kd.R_types HO425.out BK440.out (by decide)) (fun _ hk => hk.2)) (fun _ h_ => h_.1))) hb); replace HO432 := Aside0.mk (Kd.R_below (by exact (Kd.R_mono (Kd.R_lax (g := gb440) (Kd.R_types HO432.out BK440.out (by decide)) (fun _ hk => hk.2)) (fun _ h_ => h_.1))) hb); replace HO438 := Aside0.mk (Kd.R_below (by exact (Kd.R_mono (Kd.R_lax (g := gb440) (Kd.R_types HO438.out BK440.out (by decide)) (fun _ hk => hk.2)) (fun _ h_ => h_.1))) hb); replace BK428 := kbx (a := gb440) BK428 NB428_440 hb; replace BK434 := kbx (a := gb440) BK434 NB434_440 hb; replace BK440 := Aside0.mk (blk_below (o := .cells #[.int .i64 t435, .slice Ao22 t436.length co22] 25 (0, 0)) (bp BK440.out (by rfl)) hb); replace HB := hbx (a := gb440) HB GE440 hb; (try clear hb); (try clear hb2); (try clear hk); (try clear hi)))
     go_meet
     case rel => exact ⟨_, ((t433 != 0)), (by first | rfl | (simp; done) | (simp [*]; done)), H', ⟨by first | omega | exact Nat.le_refl _⟩, ⟨by exact Kd.R_lat (Kd.R_mono HO425.out (fun _ hk => ⟨hk.1.2, hk.2⟩))⟩, ⟨by exact Kd.R_lat (Kd.R_mono HO432.out (fun _ hk => ⟨hk.1.2, hk.2⟩))⟩, ⟨by exact Kd.R_lat (Kd.R_mono HO438.out (fun _ hk => ⟨hk.1.2, hk.2⟩))⟩, ⟨bl BK428.out⟩, ⟨bl BK434.out⟩, ⟨bl BK440.out⟩, ⟨by exact bb HB.out⟩⟩
    replace c25 := Bool.eq_false_iff.mpr c25;subst c25;rw [if_neg (show ¬ (false = true) by decide)] at H;have H' := Aside0.mk H;clear H;have hnb32 := NB434_428.out;have hnc32 := NB428_434.out;have hnb33 := NB434_440.out;have hnc33 := NB440_434.out;obtain ⟨hcz34_0, hcz34_1, hfz34_0, hfz34_1⟩ := c2 BK434;have hnb35 := NB440_428.out;have hnc35 := NB428_440.out;obtain ⟨hcz36_0, hcz36_1, hfz36_0, hfz36_1⟩ := c2 BK440;go_wp2_with (first | (go_at_call 8; (with_reducible refine (laws_whCat.calls k t429 _ _ t430 t435 _ _ t436 false _ ?side1 ?side2 ?side3 ?side4 A24.out).mono ?_); (case side1 => refine (Kd.R_reads' (e := 38) (base := w.heap.size) (ok := fun k_ => ((True ∧ some k_ ≠ (.slice Ao10 t423.length co10 : Value).ownBlock) ∧ some k_ ≠ (.slice Ao22 t436.length co22 : Value).ownBlock)) (n := t430.length) (c := co15) ?_).2.2; exact (by exact (Kd.R_mono (Kd.R_lax (g := gb440) (Kd.R_types HO432.out BK440.out (by decide)) (fun _ hk => hk.2)) (fun _ h_ => h_.1)))); (case side2 => exact (Kd.R_reads' HO432.out).2.1); (case side3 => refine (Kd.R_reads' (e := 38) (base := w.heap.size) (ok := fun k_ => ((True ∧ some k_ ≠ (.slice Ao10 t423.length co10 : Value).ownBlock) ∧ some k_ ≠ (.slice Ao15 t430.length co15 : Value).ownBlock)) (n := t436.length) (c := co22) ?_).2.2; exact (by exact (Kd.R_mono (Kd.R_lax (g := gb440) (Kd.R_types HO438.out BK440.out (by decide)) (fun _ hk => hk.2)) (fun _ h_ => h_.1)))); (case side4 => exact (Kd.R_reads' HO438.out).2.1); rintro e w37 ⟨rfl, hb⟩; replace HO425 := Aside0.mk (Kd.R_below (by exact (Kd.R_mono (Kd.R_lax (g := gb440) (Kd.R_types HO425.out BK440.out (by decide)) (fun _ hk => hk.2)) (fun _ h_ => h_.1))) hb); replace HO432 := Aside0.mk (Kd.R_below (by exact (Kd.R_mono (Kd.R_lax (g := gb440) (Kd.R_types HO432.out BK440.out (by decide)) (fun _ hk => hk.2)) (fun _ h_ => h_.1))) hb); replace HO438 := Aside0.mk (Kd.R_below (by exact (Kd.R_mono (Kd.R_lax (g := gb440) (Kd.R_types HO438.out BK440.out (by decide)) (fun _ hk => hk.2)) (fun _ h_ => h_.1))) hb); replace BK428 := kbx (a := gb440) BK428 NB428_440 hb; replace BK434 := kbx (a := gb440) BK434 NB434_440 hb; replace BK440 := Aside0.mk (blk_below (o := .cells #[.int .i64 t435, .slice Ao22 t436.length co22] 25 (0, 0)) (bp BK440.out (by rfl)) hb); replace HB := hbx (a := gb440) HB GE440 hb; (try clear hb); (try clear hb2); (try clear hk); (try clear hi)))
    go_meet
    case rel => exact ⟨_, (true), (by first | rfl | (simp; done) | (simp [*]; done)), H', ⟨by first | omega | exact Nat.le_refl _⟩, ⟨by exact Kd.R_lat (Kd.R_mono HO425.out (fun _ hk => ⟨hk.1.2, hk.2⟩))⟩, ⟨by exact Kd.R_lat (Kd.R_mono HO432.out (fun _ hk => ⟨hk.1.2, hk.2⟩))⟩, ⟨by exact Kd.R_lat (Kd.R_mono HO438.out (fun _ hk => ⟨hk.1.2, hk.2⟩))⟩, ⟨bl BK428.out⟩, ⟨bl BK434.out⟩, ⟨bl BK440.out⟩, ⟨by exact bb HB.out⟩⟩
   rw [if_neg c23] at H;have c23b0 : (t433 == t439) = false := beq_eq_false_iff_ne.mpr c23;have c23b1 : (t433 != t439) = true := bne_iff_ne.mpr c23
   (first | rw [c23b0] | (simp only [i64_w, i32_w]; rw [c23b0]) | skip)
   have H' := Aside0.mk H;clear H;go_wp2
   go_meet
   case rel => exact ⟨_, (true), (by first | rfl | (simp; done) | (simp [*]; done)), H', ⟨by first | omega | exact Nat.le_refl _⟩, ⟨by exact Kd.R_mono (Kd.R_lax (g := gb440) (Kd.R_types HO425.out BK440.out (by decide)) (fun _ hk => hk.2)) (fun _ hk => ⟨hk.1.1.2, hk.1.2⟩)⟩, ⟨by exact Kd.R_mono (Kd.R_lax (g := gb440) (Kd.R_types HO432.out BK440.out (by decide)) (fun _ hk => hk.2)) (fun _ hk => ⟨hk.1.1.2, hk.1.2⟩)⟩, ⟨by exact Kd.R_mono (Kd.R_lax (g := gb440) (Kd.R_types HO438.out BK440.out (by decide)) (fun _ hk => hk.2)) (fun _ hk => ⟨hk.1.1.2, hk.1.2⟩)⟩, ⟨bx (a := gb440) BK428.out NB428_440.out⟩, ⟨bx (a := gb440) BK434.out NB434_440.out⟩, ⟨bp BK440.out (by rfl)⟩, ⟨by exact bbx (a := gb440) HB.out GE440.out⟩⟩
  case rest =>
   clear HC6;try clear c1
   try clear c2
   try clear c2b0
   try clear c2b1
   try clear p2
   try clear c3
   try clear c4
   try clear c10
   try clear c12
   try clear c13
   try clear c19
   try clear c20
   try clear c23
   try clear c23b0
   try clear c23b1
   try clear c25
   try clear c26
   try clear c27
   try clear c29
   try clear c32
   try clear c33
   try clear c35
   try clear hcz14_0
   try clear hcz14_1
   try clear hcz16_0
   try clear hcz16_1
   try clear hcz21_0
   try clear hcz21_1
   try clear hcz28_0
   try clear hcz28_1
   try clear hcz30_0
   try clear hcz30_1
   try clear hcz34_0
   try clear hcz34_1
   try clear hcz36_0
   try clear hcz36_1
   try clear hcz9_0
   try clear hcz9_1
   try clear hfz14_0
   try clear hfz14_1
   try clear hfz16_0
   try clear hfz16_1
   try clear hfz21_0
   try clear hfz21_1
   try clear hfz28_0
   try clear hfz28_1
   try clear hfz30_0
   try clear hfz30_1
   try clear hfz34_0
   try clear hfz34_1
   try clear hfz36_0
   try clear hfz36_1
   try clear hfz9_0
   try clear hfz9_1
   obtain ⟨kq, x58_5, rfl, HA, HJ5, HO_429001, HO_435001, HO_441001, BK428, BK434, BK440, HB⟩ := hcut
   cases kq with
   | zero => exact absurd HA.out (by simp [laws_FnCatTake.j0])
   | succ kj5 =>
    have H := HA.out;clear HA;simp only [laws_FnCatTake.j0] at H
    by_cases c38 : x58_5 = true
    ·subst c38;rw [if_pos rfl] at H
     by_cases c39 : t433 = t439
     ·rw [if_pos c39] at H;have c39b0 : (t433 == t439) = true := beq_iff_eq.mpr c39;have c39b1 : (t433 != t439) = false := bne_eq_false_iff_eq.mpr c39;clear c39;replace H := Option.bind_eq_some_iff.mp H;obtain ⟨t442, A400, H⟩ := H;have A40 := Aside0.mk A400;clear A400;obtain rfl := Option.some.inj H;have hnb41 := NB434_428.out;have hnc41 := NB428_434.out;have hnb42 := NB434_440.out;have hnc42 := NB440_434.out;obtain ⟨hcz43_0, hcz43_1, hfz43_0, hfz43_1⟩ := c2 BK434;have hnb44 := NB440_428.out;have hnc44 := NB428_440.out;obtain ⟨hcz45_0, hcz45_1, hfz45_0, hfz45_1⟩ := c2 BK440;go_wp2_with (first | (go_at_call 8; (with_reducible refine (laws_whCat.calls kj5 t429 _ _ t430 t435 _ _ t436 t442 _ ?side1 ?side2 ?side3 ?side4 A40.out).mono ?_); (case side1 => exact Kd.cR HO_435001); (case side2 => exact (Kd.R_reads' HO_435001.out).2.1); (case side3 => exact Kd.cR HO_441001); (case side4 => exact (Kd.R_reads' HO_441001.out).2.1); rintro e w46 ⟨rfl, hb⟩; replace HO_429001 := Kd.rR HO_429001 hb; replace HO_435001 := Kd.rR HO_435001 hb; replace HO_441001 := Kd.rR HO_441001 hb; replace BK428 := kb BK428 hb; replace BK434 := kb BK434 hb; replace BK440 := kb BK440 hb; replace HB := hbb HB hb; (try clear hb); (try clear hb2); (try clear hk); (try clear hi)));go_ret;exact ⟨by first | rfl | (simp [errW_none, errW_some] <;> rfl) | (simp [*, errW_none, errW_some] <;> rfl), by exact bb HB.out⟩
     rw [if_neg c39] at H;have c39b0 : (t433 == t439) = false := beq_eq_false_iff_ne.mpr c39;have c39b1 : (t433 != t439) = true := bne_iff_ne.mpr c39;obtain rfl := Option.some.inj H;go_wp2;go_ret;exact ⟨by first | rfl | (simp [errW_none, errW_some] <;> rfl) | (simp [*, errW_none, errW_some] <;> rfl), by exact bb HB.out⟩
    ·replace c38 := Bool.eq_false_iff.mpr c38;subst c38;rw [if_neg (show ¬ (false = true) by decide)] at H;replace H := Option.bind_eq_some_iff.mp H;obtain ⟨⟨t443, t444, t445, t446, t447⟩, A470, H⟩ := H;replace H : ((impl_CatGet.f kj5 t429 t430 t426 t427).bind fun bt449 => ((impl_CatEdition.f kj5 t429 t430 t445).bind fun bt455 => ((impl_CatPut.f kj5 t429 t430 t426 t427 t446).bind fun bt461 => ((impl_CatGet.f kj5 bt461.1 bt461.2.1 t426 t427).bind fun bt467 => (laws_FnCatTake.l0 kj5 bt449.2.2.2.2 bt455.2.2.2.2 bt461.2.2 bt467.2.2.2.2 0 t422 t423 t429 t430 t443 t444 t445 t446 bt467.1 bt467.2.1 bt467.2.2.1 bt467.2.2.2.1))))) = some r := H;have A47 := Aside0.mk A470;clear A470;replace H := Option.bind_eq_some_iff.mp H;obtain ⟨⟨t449, t450, t451, t452, t453⟩, A480, H⟩ := H;replace H : ((impl_CatEdition.f kj5 t429 t430 t445).bind fun bt455 => ((impl_CatPut.f kj5 t429 t430 t426 t427 t446).bind fun bt461 => ((impl_CatGet.f kj5 bt461.1 bt461.2.1 t426 t427).bind fun bt467 => (laws_FnCatTake.l0 kj5 t453 bt455.2.2.2.2 bt461.2.2 bt467.2.2.2.2 0 t422 t423 t429 t430 t443 t444 t445 t446 bt467.1 bt467.2.1 bt467.2.2.1 bt467.2.2.2.1)))) = some r := H;have A48 := Aside0.mk A480;clear A480;replace H := Option.bind_eq_some_iff.mp H;obtain ⟨⟨t455, t456, t457, t458, t459⟩, A490, H⟩ := H;replace H : ((impl_CatPut.f kj5 t429 t430 t426 t427 t446).bind fun bt461 => ((impl_CatGet.f kj5 bt461.1 bt461.2.1 t426 t427).bind fun bt467 => (laws_FnCatTake.l0 kj5 t453 t459 bt461.2.2 bt467.2.2.2.2 0 t422 t423 t429 t430 t443 t444 t445 t446 bt467.1 bt467.2.1 bt467.2.2.1 bt467.2.2.2.1))) = some r := H;have A49 := Aside0.mk A490;clear A490;replace H := Option.bind_eq_some_iff.mp H;obtain ⟨⟨t461, t462, t465⟩, A500, H⟩ := H;replace H : ((impl_CatGet.f kj5 t461 t462 t426 t427).bind fun bt467 => (laws_FnCatTake.l0 kj5 t453 t459 t465 bt467.2.2.2.2 0 t422 t423 t429 t430 t443 t444 t445 t446 bt467.1 bt467.2.1 bt467.2.2.1 bt467.2.2.2.1)) = some r := H;have A50 := Aside0.mk A500;clear A500;replace H := Option.bind_eq_some_iff.mp H;obtain ⟨⟨t467, t468, t469, t470, t471⟩, A510, H⟩ := H;replace H : (laws_FnCatTake.l0 kj5 t453 t459 t465 t471 0 t422 t423 t429 t430 t443 t444 t445 t446 t467 t468 t469 t470) = some r := H;have A51 := Aside0.mk A510;clear A510;have H' := Aside0.mk H;clear H;have hnb52 := NB428_434.out;have hnc52 := NB434_428.out;have hnb53 := NB428_440.out;have hnc53 := NB440_428.out;obtain ⟨hcz54_0, hcz54_1, hfz54_0, hfz54_1⟩ := c2 BK428;go_wp2_with (first | ((with_reducible refine gate_callee (f := 14) rfl ?_); refine goesL_ (some 71) rfl rfl Try.func14 (by kernel_rfl) rfl #[.agg #[.int .i64 t422, .slice Ao10 t423.length co10], .int .i64 t426, .string t427] rfl (by (try simp only [List.map_toArray, List.map_cons, List.map_nil]); first | done | rfl | (simp only [List.length_drop, List.length_take]; rfl)) ?_; (with_reducible refine (impl_CatGet.calls kj5 t422 _ _ t423 t426 t427 t443 t444 t445 t446 t447 _ ?side1 ?side2 A47.out).mono ?_); (case side1 => exact Kd.cR HO_429001); (case side2 => exact (Kd.R_reads' HO_429001.out).2.1); rintro e w55 ⟨rfl, hb⟩; refine ⟨_, rfl, ?_⟩; replace HO_429001 := Kd.rR HO_429001 hb; replace HO_435001 := Kd.rR HO_435001 hb; replace HO_441001 := Kd.rR HO_441001 hb; replace BK428 := kb BK428 hb; replace BK434 := kb BK434 hb; replace BK440 := kb BK440 hb; replace HB := hbb HB hb; (try clear hb); (try clear hb2); (try clear hk); (try clear hi)) | ((with_reducible refine gate_dst (N := 10) rfl ?_); refine box_event ?hg (N := 10) ?hd (cs := #[.int .i64 0, .string (⟨#[]⟩ : ByteArray), .int .i64 0, .string (⟨#[]⟩ : ByteArray)]) (t := 38) ?hr ?_; (case hd => rfl); (case hg => rfl); (case hr => first | (go_simp; done) | (go_simp; rfl)); intro gb448 hg w56 hbox hb; have BK448 := Aside0.mk (hbox); have GW448 := gw HB hg; have GE448 := gw HB hg; have NB428_448 := nl BK428 hg; have NB448_428 := ng BK428 hg; have NB434_448 := nl BK434 hg; have NB448_434 := ng BK434 hg; have NB440_448 := nl BK440 hg; have NB448_440 := ng BK440 hg; replace HO_429001 := Kd.eR HO_429001 hg hb; replace HO_435001 := Kd.eR HO_435001 hg hb; replace HO_441001 := Kd.eR HO_441001 hg hb; replace BK428 := kb BK428 hb; replace BK434 := kb BK434 hb; replace BK440 := kb BK440 hb; replace HB := hbb HB hb; clear hb hbox hg; have hnb57 := NB448_428.out; have hnc57 := NB428_448.out; have hnb58 := NB448_434.out; have hnc58 := NB434_448.out; have hnb59 := NB448_440.out; have hnc59 := NB440_448.out; obtain ⟨hcz60_0, hcz60_1, hcz60_2, hcz60_3, hfz60_0, hfz60_1, hfz60_2, hfz60_3⟩ := c4 BK448; have hnb61 := NB434_440.out; have hnc61 := NB440_434.out; obtain ⟨hcz62_0, hcz62_1, hfz62_0, hfz62_1⟩ := c2 BK434) | ((with_reducible refine gate_callee (f := 14) rfl ?_); refine goesL_ (some 78) rfl rfl Try.func14 (by kernel_rfl) rfl #[.agg #[.int .i64 t429, .slice Ao15 t430.length co15], .int .i64 t426, .string t427] rfl (by (try simp only [List.map_toArray, List.map_cons, List.map_nil]); first | done | rfl | (simp only [List.length_drop, List.length_take]; rfl)) ?_; (with_reducible refine (impl_CatGet.calls kj5 t429 _ _ t430 t426 t427 t449 t450 t451 t452 t453 _ ?side1 ?side2 A48.out).mono ?_); (case side1 => refine (Kd.R_reads' (e := 38) (base := w.heap.size) (ok := fun k_ => ((some k_ ≠ (.slice Ao10 t423.length co10 : Value).ownBlock ∧ some k_ ≠ (.slice Ao22 t436.length co22 : Value).ownBlock) ∧ k_ ≠ gb448)) (n := t430.length) (c := co15) ?_).2.2; exact (by exact (Kd.R_mono (Kd.R_lax (g := gb448) (Kd.R_mono HO_435001.out (fun k_ hk => (⟨hk, hk.2⟩ : _ ∧ k_ ≠ gb448))) (fun _ hk => hk.2)) (fun _ h_ => h_.1)))); (case side2 => exact (Kd.R_reads' HO_435001.out).2.1); rintro e w63 ⟨rfl, hb⟩; refine ⟨_, rfl, ?_⟩; replace HO_429001 := Kd.xR (g := gb448) HO_429001 (fun _ hk => hk.2) hb; replace HO_435001 := Kd.xR (g := gb448) HO_435001 (fun _ hk => hk.2) hb; replace HO_441001 := Kd.xR (g := gb448) HO_441001 (fun _ hk => hk.2) hb; replace BK428 := kbx (a := gb448) BK428 NB428_448 hb; replace BK434 := kbx (a := gb448) BK434 NB434_448 hb; replace BK440 := kbx (a := gb448) BK440 NB440_448 hb; replace BK448 := Aside0.mk (blk_below (o := .cells #[.int .i64 t443, .string t444, .int .i64 t445, .string t446] 38 (0, 0)) (bp BK448.out (by rfl)) hb); replace HB := hbx (a := gb448) HB GE448 hb; (try clear hb); (try clear hb2); (try clear hk); (try clear hi)) | ((with_reducible refine gate_dst (N := 12) rfl ?_); refine box_event ?hg (N := 12) ?hd (cs := #[.int .i64 0, .string (⟨#[]⟩ : ByteArray), .int .i64 0, .string (⟨#[]⟩ : ByteArray)]) (t := 38) ?hr ?_; (case hd => rfl); (case hg => rfl); (case hr => first | (go_simp; done) | (go_simp; rfl)); intro gb454 hg w64 hbox hb; have BK454 := Aside0.mk (hbox); have GW454 := gw HB hg; have GE454 := gw HB hg; have NB428_454 := nl BK428 hg; have NB454_428 := ng BK428 hg; have NB434_454 := nl BK434 hg; have NB454_434 := ng BK434 hg; have NB440_454 := nl BK440 hg; have NB454_440 := ng BK440 hg; have NB448_454 := nl BK448 hg; have NB454_448 := ng BK448 hg; replace HO_429001 := Kd.eR HO_429001 hg hb; replace HO_435001 := Kd.eR HO_435001 hg hb; replace HO_441001 := Kd.eR HO_441001 hg hb; replace BK428 := kb BK428 hb; replace BK434 := kb BK434 hb; replace BK440 := kb BK440 hb; replace BK448 := kb BK448 hb; replace HB := hbb HB hb; clear hb hbox hg; have hnb65 := NB454_428.out; have hnc65 := NB428_454.out; have hnb66 := NB454_434.out; have hnc66 := NB434_454.out; have hnb67 := NB454_440.out; have hnc67 := NB440_454.out; have hnb68 := NB454_448.out; have hnc68 := NB448_454.out; obtain ⟨hcz69_0, hcz69_1, hcz69_2, hcz69_3, hfz69_0, hfz69_1, hfz69_2, hfz69_3⟩ := c4 BK454; obtain ⟨hcz70_0, hcz70_1, hfz70_0, hfz70_1⟩ := c2 BK434; obtain ⟨hcz71_0, hcz71_1, hcz71_2, hcz71_3, hfz71_0, hfz71_1, hfz71_2, hfz71_3⟩ := c4 BK448) | ((with_reducible refine gate_callee (f := 15) rfl ?_); refine goesL_ (some 85) rfl rfl Try.func15 (by kernel_rfl) rfl #[.agg #[.int .i64 t429, .slice Ao15 t430.length co15], .int .i64 t445] rfl (by (try simp only [List.map_toArray, List.map_cons, List.map_nil]); first | done | rfl | (simp only [List.length_drop, List.length_take]; rfl)) ?_; (with_reducible refine (impl_CatEdition.calls kj5 t429 _ _ t430 t445 t455 t456 t457 t458 t459 _ ?side1 ?side2 A49.out).mono ?_); (case side1 => refine (Kd.R_reads' (e := 38) (base := w.heap.size) (ok := fun k_ => (((some k_ ≠ (.slice Ao10 t423.length co10 : Value).ownBlock ∧ some k_ ≠ (.slice Ao22 t436.length co22 : Value).ownBlock) ∧ k_ ≠ gb448) ∧ k_ ≠ gb454)) (n := t430.length) (c := co15) ?_).2.2; exact (by exact (Kd.R_mono (Kd.R_lax (g := gb454) (Kd.R_mono HO_435001.out (fun k_ hk => (⟨hk, hk.2⟩ : _ ∧ k_ ≠ gb454))) (fun _ hk => hk.2)) (fun _ h_ => h_.1)))); (case side2 => exact (Kd.R_reads' HO_435001.out).2.1); rintro e w72 ⟨rfl, hb⟩; refine ⟨_, rfl, ?_⟩; replace HO_429001 := Kd.xR (g := gb454) HO_429001 (fun _ hk => hk.2) hb; replace HO_435001 := Kd.xR (g := gb454) HO_435001 (fun _ hk => hk.2) hb; replace HO_441001 := Kd.xR (g := gb454) HO_441001 (fun _ hk => hk.2) hb; replace BK428 := kbx (a := gb454) BK428 NB428_454 hb; replace BK434 := kbx (a := gb454) BK434 NB434_454 hb; replace BK440 := kbx (a := gb454) BK440 NB440_454 hb; replace BK448 := kbx (a := gb454) BK448 NB448_454 hb; replace BK454 := Aside0.mk (blk_below (o := .cells #[.int .i64 t449, .string t450, .int .i64 t451, .string t452] 38 (0, 0)) (bp BK454.out (by rfl)) hb); replace HB := hbx (a := gb454) HB GE454 hb; (try clear hb); (try clear hb2); (try clear hk); (try clear hi)) | ((with_reducible refine gate_dst (N := 14) rfl ?_); refine box_event ?hg (N := 14) ?hd (cs := #[.int .i64 0, .string (⟨#[]⟩ : ByteArray), .int .i64 0, .string (⟨#[]⟩ : ByteArray)]) (t := 38) ?hr ?_; (case hd => rfl); (case hg => rfl); (case hr => first | (go_simp; done) | (go_simp; rfl)); intro gb460 hg w73 hbox hb; have BK460 := Aside0.mk (hbox); have GW460 := gw HB hg; have GE460 := gw HB hg; have NB428_460 := nl BK428 hg; have NB460_428 := ng BK428 hg; have NB434_460 := nl BK434 hg; have NB460_434 := ng BK434 hg; have NB440_460 := nl BK440 hg; have NB460_440 := ng BK440 hg; have NB448_460 := nl BK448 hg; have NB460_448 := ng BK448 hg; have NB454_460 := nl BK454 hg; have NB460_454 := ng BK454 hg; replace HO_429001 := Kd.eR HO_429001 hg hb; replace HO_435001 := Kd.eR HO_435001 hg hb; replace HO_441001 := Kd.eR HO_441001 hg hb; replace BK428 := kb BK428 hb; replace BK434 := kb BK434 hb; replace BK440 := kb BK440 hb; replace BK448 := kb BK448 hb; replace BK454 := kb BK454 hb; replace HB := hbb HB hb; clear hb hbox hg; have hnb74 := NB460_428.out; have hnc74 := NB428_460.out; have hnb75 := NB460_434.out; have hnc75 := NB434_460.out; have hnb76 := NB460_440.out; have hnc76 := NB440_460.out; have hnb77 := NB460_448.out; have hnc77 := NB448_460.out; have hnb78 := NB460_454.out; have hnc78 := NB454_460.out; obtain ⟨hcz79_0, hcz79_1, hcz79_2, hcz79_3, hfz79_0, hfz79_1, hfz79_2, hfz79_3⟩ := c4 BK460; obtain ⟨hcz80_0, hcz80_1, hfz80_0, hfz80_1⟩ := c2 BK434; obtain ⟨hcz81_0, hcz81_1, hcz81_2, hcz81_3, hfz81_0, hfz81_1, hfz81_2, hfz81_3⟩ := c4 BK448) | ((with_reducible refine gate_callee (f := 6) rfl ?_); refine goesL_ (some 94) rfl rfl Try.func6 (by kernel_rfl) rfl #[.agg #[.int .i64 t429, .slice Ao15 t430.length co15], .int .i64 t426, .string t427, .string t446] rfl (by (try simp only [List.map_toArray, List.map_cons, List.map_nil]); first | done | rfl | (simp only [List.length_drop, List.length_take]; rfl)) ?_; (with_reducible refine (impl_CatPut.calls kj5 t429 _ _ t430 t426 t427 t446 t461 t462 t465 _ ?side1 ?side2 A50.out).mono ?_); (case side1 => refine (Kd.R_reads' (e := 38) (base := w.heap.size) (ok := fun k_ => ((((some k_ ≠ (.slice Ao10 t423.length co10 : Value).ownBlock ∧ some k_ ≠ (.slice Ao22 t436.length co22 : Value).ownBlock) ∧ k_ ≠ gb448) ∧ k_ ≠ gb454) ∧ k_ ≠ gb460)) (n := t430.length) (c := co15) ?_).2.2; exact (by exact (Kd.R_mono (Kd.R_lax (g := gb460) (Kd.R_mono HO_435001.out (fun k_ hk => (⟨hk, hk.2⟩ : _ ∧ k_ ≠ gb460))) (fun _ hk => hk.2)) (fun _ h_ => h_.1)))); (case side2 => exact (Kd.R_reads' HO_435001.out).2.1); rintro e w82 ⟨v463, rfl, ho0, hb⟩; refine ⟨_, rfl, ?_⟩; have HO464 := Aside0.mk (Kd.R_lower (Kd.R_newB (Kd.R_newB (Kd.R_newB (Kd.R_new' (Kd.R_new' (Kd.R_new' ho0 (Kd.R_lt (by exact (Kd.R_mono (Kd.R_lax (g := gb460) (Kd.R_mono HO_429001.out (fun k_ hk => (⟨hk, hk.2⟩ : _ ∧ k_ ≠ gb460))) (fun _ hk => hk.2)) (fun _ h_ => h_.1))))) (Kd.R_lt (by exact (Kd.R_mono (Kd.R_lax (g := gb460) (Kd.R_mono HO_435001.out (fun k_ hk => (⟨hk, hk.2⟩ : _ ∧ k_ ≠ gb460))) (fun _ hk => hk.2)) (fun _ h_ => h_.1))))) (Kd.R_lt (by exact (Kd.R_mono (Kd.R_lax (g := gb460) (Kd.R_mono HO_441001.out (fun k_ hk => (⟨hk, hk.2⟩ : _ ∧ k_ ≠ gb460))) (fun _ hk => hk.2)) (fun _ h_ => h_.1))))) (g := gb448) (o := .cells #[.int .i64 t443, .string t444, .int .i64 t445, .string t446] 38 (0, 0)) (bx (a := gb460) BK448.out NB448_460.out)) (g := gb454) (o := .cells #[.int .i64 t449, .string t450, .int .i64 t451, .string t452] 38 (0, 0)) (bx (a := gb460) BK454.out NB454_460.out)) (g := gb460) (o := .cells #[.int .i64 t455, .string t456, .int .i64 t457, .string t458] 38 (0, 0)) (bp BK460.out (by rfl))) (below_size (by exact bbx (a := gb460) HB.out GE460.out))); replace HO_429001 := Aside0.mk (Kd.R_elder' (by exact (Kd.R_mono (Kd.R_lax (g := gb460) (Kd.R_mono HO_429001.out (fun k_ hk => (⟨hk, hk.2⟩ : _ ∧ k_ ≠ gb460))) (fun _ hk => hk.2)) (fun _ h_ => h_.1))) (Kd.R_base ho0) hb); replace HO_435001 := Aside0.mk (Kd.R_elder' (by exact (Kd.R_mono (Kd.R_lax (g := gb460) (Kd.R_mono HO_435001.out (fun k_ hk => (⟨hk, hk.2⟩ : _ ∧ k_ ≠ gb460))) (fun _ hk => hk.2)) (fun _ h_ => h_.1))) (Kd.R_base ho0) hb); replace HO_441001 := Aside0.mk (Kd.R_elder' (by exact (Kd.R_mono (Kd.R_lax (g := gb460) (Kd.R_mono HO_441001.out (fun k_ hk => (⟨hk, hk.2⟩ : _ ∧ k_ ≠ gb460))) (fun _ hk => hk.2)) (fun _ h_ => h_.1))) (Kd.R_base ho0) hb); replace BK428 := kbx (a := gb460) BK428 NB428_460 hb; replace BK434 := kbx (a := gb460) BK434 NB434_460 hb; replace BK440 := kbx (a := gb460) BK440 NB440_460 hb; replace BK448 := kbx (a := gb460) BK448 NB448_460 hb; replace BK454 := kbx (a := gb460) BK454 NB454_460 hb; replace BK460 := Aside0.mk (blk_below (o := .cells #[.int .i64 t455, .string t456, .int .i64 t457, .string t458] 38 (0, 0)) (bp BK460.out (by rfl)) hb); replace HB := hbx (a := gb460) HB GE460 hb; (try clear hb); (try clear hb2); (try clear hk); (try clear hi); (try clear ho0)) | ((with_reducible refine gate_dst (N := 16) rfl ?_); refine box_event ?hg (N := 16) ?hd (cs := #[.int .i64 0, .slice none 0 0]) (t := 25) ?hr ?_; (case hd => rfl); (case hg => rfl); (case hr => first | (go_simp; done) | (go_simp; rfl)); intro gb466 hg w83 hbox hb; have BK466 := Aside0.mk (hbox); have GW466 := gw HB hg; have GE466 := gw HB hg; have NB428_466 := nl BK428 hg; have NB466_428 := ng BK428 hg; have NB434_466 := nl BK434 hg; have NB466_434 := ng BK434 hg; have NB440_466 := nl BK440 hg; have NB466_440 := ng BK440 hg; have NB448_466 := nl BK448 hg; have NB466_448 := ng BK448 hg; have NB454_466 := nl BK454 hg; have NB466_454 := ng BK454 hg; have NB460_466 := nl BK460 hg; have NB466_460 := ng BK460 hg; replace HO_429001 := Kd.rR HO_429001 hb; replace HO_435001 := Kd.rR HO_435001 hb; replace HO_441001 := Kd.rR HO_441001 hb; replace HO464 := Kd.rR HO464 hb; replace BK428 := kb BK428 hb; replace BK434 := kb BK434 hb; replace BK440 := kb BK440 hb; replace BK448 := kb BK448 hb; replace BK454 := kb BK454 hb; replace BK460 := kb BK460 hb; replace HB := hbb HB hb; clear hb hbox hg; have hnb84 := NB466_428.out; have hnc84 := NB428_466.out; have hnb85 := NB466_434.out; have hnc85 := NB434_466.out; have hnb86 := NB466_440.out; have hnc86 := NB440_466.out; have hnb87 := NB466_448.out; have hnc87 := NB448_466.out; have hnb88 := NB466_454.out; have hnc88 := NB454_466.out; have hnb89 := NB466_460.out; have hnc89 := NB460_466.out; obtain ⟨hcz90_0, hcz90_1, hfz90_0, hfz90_1⟩ := c2 BK466; obtain ⟨Ao91, co91, eo91⟩ := Kd.R_slice HO464.out; subst eo91) | ((with_reducible refine gate_callee (f := 14) rfl ?_); refine goesL_ (some 101) rfl rfl Try.func14 (by kernel_rfl) rfl #[.agg #[.int .i64 t461, .slice Ao91 t462.length co91], .int .i64 t426, .string t427] rfl (by (try simp only [List.map_toArray, List.map_cons, List.map_nil]); first | done | rfl | (simp only [List.length_drop, List.length_take]; rfl)) ?_; (with_reducible refine (impl_CatGet.calls kj5 t461 _ _ t462 t426 t427 t467 t468 t469 t470 t471 _ ?side1 ?side2 A51.out).mono ?_); (case side1 => refine (Kd.R_reads' (e := 38) (base := w.heap.size) (ok := fun k_ => ((((((True ∧ some k_ ≠ (.slice Ao10 t423.length co10 : Value).ownBlock) ∧ some k_ ≠ (.slice Ao15 t430.length co15 : Value).ownBlock) ∧ some k_ ≠ (.slice Ao22 t436.length co22 : Value).ownBlock) ∧ k_ ≠ gb448) ∧ k_ ≠ gb454) ∧ k_ ≠ gb460)) (n := t462.length) (c := co91) ?_).2.2; exact (by exact (Kd.R_mono (Kd.R_lax (g := gb466) (Kd.R_types HO464.out BK466.out (by decide)) (fun _ hk => hk.2)) (fun _ h_ => h_.1)))); (case side2 => exact (Kd.R_reads' HO464.out).2.1); rintro e w92 ⟨rfl, hb⟩; refine ⟨_, rfl, ?_⟩; replace HO_429001 := Aside0.mk (Kd.R_below (by exact (Kd.R_mono (Kd.R_lax (g := gb466) (Kd.R_types HO_429001.out BK466.out (by decide)) (fun _ hk => hk.2)) (fun _ h_ => h_.1))) hb); replace HO_435001 := Aside0.mk (Kd.R_below (by exact (Kd.R_mono (Kd.R_lax (g := gb466) (Kd.R_types HO_435001.out BK466.out (by decide)) (fun _ hk => hk.2)) (fun _ h_ => h_.1))) hb); replace HO_441001 := Aside0.mk (Kd.R_below (by exact (Kd.R_mono (Kd.R_lax (g := gb466) (Kd.R_types HO_441001.out BK466.out (by decide)) (fun _ hk => hk.2)) (fun _ h_ => h_.1))) hb); replace HO464 := Aside0.mk (Kd.R_below (by exact (Kd.R_mono (Kd.R_lax (g := gb466) (Kd.R_types HO464.out BK466.out (by decide)) (fun _ hk => hk.2)) (fun _ h_ => h_.1))) hb); replace BK428 := kbx (a := gb466) BK428 NB428_466 hb; replace BK434 := kbx (a := gb466) BK434 NB434_466 hb; replace BK440 := kbx (a := gb466) BK440 NB440_466 hb; replace BK448 := kbx (a := gb466) BK448 NB448_466 hb; replace BK454 := kbx (a := gb466) BK454 NB454_466 hb; replace BK460 := kbx (a := gb466) BK460 NB460_466 hb; replace BK466 := Aside0.mk (blk_below (o := .cells #[.int .i64 t461, .slice Ao91 t462.length co91] 25 (0, 0)) (bp BK466.out (by rfl)) hb); replace HB := hbx (a := gb466) HB GE466 hb; (try clear hb); (try clear hb2); (try clear hk); (try clear hi)) | ((with_reducible refine gate_dst (N := 18) rfl ?_); refine box_event ?hg (N := 18) ?hd (cs := #[.int .i64 0, .string (⟨#[]⟩ : ByteArray), .int .i64 0, .string (⟨#[]⟩ : ByteArray)]) (t := 38) ?hr ?_; (case hd => rfl); (case hg => rfl); (case hr => first | (go_simp; done) | (go_simp; rfl)); intro gb472 hg w93 hbox hb; have BK472 := Aside0.mk (hbox); have GW472 := gw HB hg; have GE472 := gw HB hg; have NB428_472 := nl BK428 hg; have NB472_428 := ng BK428 hg; have NB434_472 := nl BK434 hg; have NB472_434 := ng BK434 hg; have NB440_472 := nl BK440 hg; have NB472_440 := ng BK440 hg; have NB448_472 := nl BK448 hg; have NB472_448 := ng BK448 hg; have NB454_472 := nl BK454 hg; have NB472_454 := ng BK454 hg; have NB460_472 := nl BK460 hg; have NB472_460 := ng BK460 hg; have NB466_472 := nl BK466 hg; have NB472_466 := ng BK466 hg; replace HO_429001 := Kd.eR HO_429001 hg hb; replace HO_435001 := Kd.eR HO_435001 hg hb; replace HO_441001 := Kd.eR HO_441001 hg hb; replace HO464 := Kd.eR HO464 hg hb; replace BK428 := kb BK428 hb; replace BK434 := kb BK434 hb; replace BK440 := kb BK440 hb; replace BK448 := kb BK448 hb; replace BK454 := kb BK454 hb; replace BK460 := kb BK460 hb; replace BK466 := kb BK466 hb; replace HB := hbb HB hb; clear hb hbox hg; have hnb94 := NB472_428.out; have hnc94 := NB428_472.out; have hnb95 := NB472_434.out; have hnc95 := NB434_472.out; have hnb96 := NB472_440.out; have hnc96 := NB440_472.out; have hnb97 := NB472_448.out; have hnc97 := NB448_472.out; have hnb98 := NB472_454.out; have hnc98 := NB454_472.out; have hnb99 := NB472_460.out; have hnc99 := NB460_472.out; have hnb100 := NB472_466.out; have hnc100 := NB466_472.out; obtain ⟨hcz101_0, hcz101_1, hcz101_2, hcz101_3, hfz101_0, hfz101_1, hfz101_2, hfz101_3⟩ := c4 BK472))
     go_loopg [20] kj5 (fun kq v20 w' => ∃ (x20_2 : Int), v20 = .int .i64 x20_2 ∧ Aside0 (laws_FnCatTake.l0 kq t453 t459 t465 t471 x20_2 t422 t423 t429 t430 t443 t444 t445 t446 t467 t468 t469 t470 = some r) ∧ Aside0 (kq ≤ kj5) ∧ Aside0 (Kd.R k38 38 w' w.heap.size (fun k_ => some k_ ≠ ((.slice Ao15 t430.length co15) : Value).ownBlock ∧ some k_ ≠ ((.slice Ao22 t436.length co22) : Value).ownBlock ∧ some k_ ≠ ((.slice Ao91 t462.length co91) : Value).ownBlock ∧ k_ ≠ gb448 ∧ k_ ≠ gb454 ∧ k_ ≠ gb460 ∧ k_ ≠ gb472) (.slice Ao10 t423.length co10) t423) ∧ Aside0 (Kd.R k38 38 w' w.heap.size (fun k_ => some k_ ≠ ((.slice Ao10 t423.length co10) : Value).ownBlock ∧ some k_ ≠ ((.slice Ao22 t436.length co22) : Value).ownBlock ∧ some k_ ≠ ((.slice Ao91 t462.length co91) : Value).ownBlock ∧ k_ ≠ gb448 ∧ k_ ≠ gb454 ∧ k_ ≠ gb460 ∧ k_ ≠ gb472) (.slice Ao15 t430.length co15) t430) ∧ Aside0 (Kd.R k38 38 w' w.heap.size (fun k_ => some k_ ≠ ((.slice Ao10 t423.length co10) : Value).ownBlock ∧ some k_ ≠ ((.slice Ao15 t430.length co15) : Value).ownBlock ∧ some k_ ≠ ((.slice Ao91 t462.length co91) : Value).ownBlock ∧ k_ ≠ gb448 ∧ k_ ≠ gb454 ∧ k_ ≠ gb460 ∧ k_ ≠ gb472) (.slice Ao22 t436.length co22) t436) ∧ Aside0 (Kd.R k38 38 w' w.heap.size (fun k_ => some k_ ≠ ((.slice Ao10 t423.length co10) : Value).ownBlock ∧ some k_ ≠ ((.slice Ao15 t430.length co15) : Value).ownBlock ∧ some k_ ≠ ((.slice Ao22 t436.length co22) : Value).ownBlock ∧ k_ ≠ gb448 ∧ k_ ≠ gb454 ∧ k_ ≠ gb460 ∧ k_ ≠ gb472) (.slice Ao91 t462.length co91) t462) ∧ Aside0 (w'.heap[gb428]? = some (.cells #[.int .i64 t422, (.slice Ao10 t423.length co10)] 25 (0, 0))) ∧ Aside0 (w'.heap[gb434]? = some (.cells #[.int .i64 t429, (.slice Ao15 t430.length co15)] 25 (0, 0))) ∧ Aside0 (w'.heap[gb440]? = some (.cells #[.int .i64 t435, (.slice Ao22 t436.length co22)] 25 (0, 0))) ∧ Aside0 (w'.heap[gb448]? = some (.cells #[.int .i64 t443, .string t444, .int .i64 t445, .string t446] 38 (0, 0))) ∧ Aside0 (w'.heap[gb454]? = some (.cells #[.int .i64 t449, .string t450, .int .i64 t451, .string t452] 38 (0, 0))) ∧ Aside0 (w'.heap[gb460]? = some (.cells #[.int .i64 t455, .string t456, .int .i64 t457, .string t458] 38 (0, 0))) ∧ Aside0 (w'.heap[gb466]? = some (.cells #[.int .i64 t461, (.slice Ao91 t462.length co91)] 25 (0, 0))) ∧ Aside0 (w'.heap[gb472]? = some (.cells #[.int .i64 t467, .string t468, .int .i64 t469, .string t470] 38 (0, 0))) ∧ Aside0 (Below w.heap.size w w'))
     case atStart => exact ⟨(0), (by first | rfl | (simp; done) | (simp [*]; done)), H', ⟨Nat.le_refl _⟩, ⟨by exact Kd.R_mono (Kd.R_lax (g := gb472) (Kd.R_mono HO_429001.out (fun k_ hk => (⟨hk, hk.2⟩ : _ ∧ k_ ≠ gb472))) (fun _ hk => hk.2)) (fun _ hk => ⟨hk.1.1.1.1.1.1.1, ⟨hk.1.1.1.1.1.1.2, ⟨hk.1.1.2, ⟨hk.1.1.1.1.1.2, ⟨hk.1.1.1.1.2, ⟨hk.1.1.1.2, hk.1.2⟩⟩⟩⟩⟩⟩)⟩, ⟨by exact Kd.R_mono (Kd.R_lax (g := gb472) (Kd.R_mono HO_435001.out (fun k_ hk => (⟨hk, hk.2⟩ : _ ∧ k_ ≠ gb472))) (fun _ hk => hk.2)) (fun _ hk => ⟨hk.1.1.1.1.1.1.1, ⟨hk.1.1.1.1.1.1.2, ⟨hk.1.1.2, ⟨hk.1.1.1.1.1.2, ⟨hk.1.1.1.1.2, ⟨hk.1.1.1.2, hk.1.2⟩⟩⟩⟩⟩⟩)⟩, ⟨by exact Kd.R_mono (Kd.R_lax (g := gb472) (Kd.R_mono HO_441001.out (fun k_ hk => (⟨hk, hk.2⟩ : _ ∧ k_ ≠ gb472))) (fun _ hk => hk.2)) (fun _ hk => ⟨hk.1.1.1.1.1.1.1, ⟨hk.1.1.1.1.1.1.2, ⟨hk.1.1.2, ⟨hk.1.1.1.1.1.2, ⟨hk.1.1.1.1.2, ⟨hk.1.1.1.2, hk.1.2⟩⟩⟩⟩⟩⟩)⟩, ⟨by exact Kd.R_mono (Kd.R_lax (g := gb472) (Kd.R_mono HO464.out (fun k_ hk => (⟨hk, hk.2⟩ : _ ∧ k_ ≠ gb472))) (fun _ hk => hk.2)) (fun _ hk => ⟨hk.1.1.1.1.1.1.1.2, ⟨hk.1.1.1.1.1.1.2, ⟨hk.1.1.1.1.1.2, ⟨hk.1.1.1.1.2, ⟨hk.1.1.1.2, ⟨hk.1.1.2, hk.1.2⟩⟩⟩⟩⟩⟩)⟩, ⟨bx (a := gb472) BK428.out NB428_472.out⟩, ⟨bx (a := gb472) BK434.out NB434_472.out⟩, ⟨bx (a := gb472) BK440.out NB440_472.out⟩, ⟨bx (a := gb472) BK448.out NB448_472.out⟩, ⟨bx (a := gb472) BK454.out NB454_472.out⟩, ⟨bx (a := gb472) BK460.out NB460_472.out⟩, ⟨bx (a := gb472) BK466.out NB466_472.out⟩, ⟨bp BK472.out (by rfl)⟩, ⟨by exact bbx (a := gb472) HB.out GE472.out⟩⟩
     case round =>
      clear H';try clear c1
      try clear c2
      try clear c2b0
      try clear c2b1
      try clear p2
      try clear c3
      try clear c4
      try clear c5
      try clear c6
      try clear c7
      try clear c8
      try clear c9
      try clear c10
      try clear c12
      try clear c13
      try clear c14
      try clear c15
      try clear c19
      try clear c20
      try clear c23
      try clear c23b0
      try clear c23b1
      try clear c25
      try clear c26
      try clear c27
      try clear c29
      try clear c32
      try clear c33
      try clear c35
      try clear c38
      try clear c39
      try clear c39b0
      try clear c39b1
      try clear c41
      try clear c42
      try clear c44
      try clear c52
      try clear c53
      try clear c57
      try clear c58
      try clear c59
      try clear c61
      try clear c65
      try clear c66
      try clear c67
      try clear c68
      try clear c74
      try clear c75
      try clear c76
      try clear c77
      try clear c78
      try clear c84
      try clear c85
      try clear c86
      try clear c87
      try clear c88
      try clear c89
      try clear c94
      try clear c95
      try clear c96
      try clear c97
      try clear c98
      try clear c99
      try clear c100
      try clear hcz101_0
      try clear hcz101_1
      try clear hcz101_2
      try clear hcz101_3
      try clear hcz14_0
      try clear hcz14_1
      try clear hcz16_0
      try clear hcz16_1
      try clear hcz21_0
      try clear hcz21_1
      try clear hcz28_0
      try clear hcz28_1
      try clear hcz30_0
      try clear hcz30_1
      try clear hcz34_0
      try clear hcz34_1
      try clear hcz36_0
      try clear hcz36_1
      try clear hcz43_0
      try clear hcz43_1
      try clear hcz45_0
      try clear hcz45_1
      try clear hcz54_0
      try clear hcz54_1
      try clear hcz60_0
      try clear hcz60_1
      try clear hcz60_2
      try clear hcz60_3
      try clear hcz62_0
      try clear hcz62_1
      try clear hcz69_0
      try clear hcz69_1
      try clear hcz69_2
      try clear hcz69_3
      try clear hcz70_0
      try clear hcz70_1
      try clear hcz71_0
      try clear hcz71_1
      try clear hcz71_2
      try clear hcz71_3
      try clear hcz79_0
      try clear hcz79_1
      try clear hcz79_2
      try clear hcz79_3
      try clear hcz80_0
      try clear hcz80_1
      try clear hcz81_0
      try clear hcz81_1
      try clear hcz81_2
      try clear hcz81_3
      try clear hcz90_0
      try clear hcz90_1
      try clear hcz9_0
      try clear hcz9_1
      try clear hfz101_0
      try clear hfz101_1
      try clear hfz101_2
      try clear hfz101_3
      try clear hfz14_0
      try clear hfz14_1
      try clear hfz16_0
      try clear hfz16_1
      try clear hfz21_0
      try clear hfz21_1
      try clear hfz28_0
      try clear hfz28_1
      try clear hfz30_0
      try clear hfz30_1
      try clear hfz34_0
      try clear hfz34_1
      try clear hfz36_0
      try clear hfz36_1
      try clear hfz43_0
      try clear hfz43_1
      try clear hfz45_0
      try clear hfz45_1
      try clear hfz54_0
      try clear hfz54_1
      try clear hfz60_0
      try clear hfz60_1
      try clear hfz60_2
      try clear hfz60_3
      try clear hfz62_0
      try clear hfz62_1
      try clear hfz69_0
      try clear hfz69_1
      try clear hfz69_2
      try clear hfz69_3
      try clear hfz70_0
      try clear hfz70_1
      try clear hfz71_0
      try clear hfz71_1
      try clear hfz71_2
      try clear hfz71_3
      try clear hfz79_0
      try clear hfz79_1
      try clear hfz79_2
      try clear hfz79_3
      try clear hfz80_0
      try clear hfz80_1
      try clear hfz81_0
      try clear hfz81_1
      try clear hfz81_2
      try clear hfz81_3
      try clear hfz90_0
      try clear hfz90_1
      try clear hfz9_0
      try clear hfz9_1
      try clear p2
      obtain ⟨x20_2, rfl, HA, HK2, HO_429001, HO_435001, HO_441001, HO_467001, BK428, BK434, BK440, BK448, BK454, BK460, BK466, BK472, HB⟩ := hrel
      cases gk with
      | zero => exact absurd HA.out (by simp [laws_FnCatTake.l0])
      | succ k2 =>
       have H := HA.out;clear HA;simp only [laws_FnCatTake.l0] at H
       by_cases c102 : x20_2 < (t430.length : Int)
       ·rw [if_pos c102] at H;have c102b0 : decide (x20_2 < (t430.length : Int)) = true := decide_eq_true c102;clear c102
        by_cases c103 : 0 ≤ x20_2
        ·rw [if_pos c103] at H;have c103b0 : decide (0 ≤ x20_2) = true := decide_eq_true c103;clear c103;replace H := Option.bind_eq_some_iff.mp H;obtain ⟨⟨t474, t475, t476, t477, t478⟩, A1040, H⟩ := H;replace H : (if t478 = true then (laws_FnCatTake.j2 k2 t453 t459 t465 t471 x20_2 (!(t474 == ((rd_T38 t430 x20_2).f0)) || (!(t475.toList == (((rd_T38 t430 x20_2).f1).toList)) || (!(t476 == ((rd_T38 t430 x20_2).f2)) || (!(t477.toList == (((rd_T38 t430 x20_2).f3).toList)))))) t422 t423 t429 t430 t443 t444 t445 t446 t467 t468 t469 t470) else (laws_FnCatTake.j2 k2 t453 t459 t465 t471 x20_2 true t422 t423 t429 t430 t443 t444 t445 t446 t467 t468 t469 t470)) = some r := H;have A104 := Aside0.mk A1040;clear A1040;have HC105 := Aside0.mk H;clear H;have hnb106 := NB434_428.out;have hnc106 := NB428_434.out;have hnb107 := NB434_440.out;have hnc107 := NB440_434.out;have hnb108 := NB434_448.out;have hnc108 := NB448_434.out;have hnb109 := NB434_454.out;have hnc109 := NB454_434.out;have hnb110 := NB434_460.out;have hnc110 := NB460_434.out;have hnb111 := NB434_466.out;have hnc111 := NB466_434.out;have hnb112 := NB434_472.out;have hnc112 := NB472_434.out;obtain ⟨hcz113_0, hcz113_1, hfz113_0, hfz113_1⟩ := c2 BK434
         try go_wp2
         replace HO_429001 := Aside0.mk (Kd.R_drew HO_429001.out);replace HO_435001 := Aside0.mk (Kd.R_drew HO_435001.out);replace HO_441001 := Aside0.mk (Kd.R_drew HO_441001.out);replace HO_467001 := Aside0.mk (Kd.R_drew HO_467001.out);replace BK428 := Aside0.mk (blk_drew BK428.out);replace BK434 := Aside0.mk (blk_drew BK434.out);replace BK440 := Aside0.mk (blk_drew BK440.out);replace BK448 := Aside0.mk (blk_drew BK448.out);replace BK454 := Aside0.mk (blk_drew BK454.out);replace BK460 := Aside0.mk (blk_drew BK460.out);replace BK466 := Aside0.mk (blk_drew BK466.out);replace BK472 := Aside0.mk (blk_drew BK472.out);replace HB := Aside0.mk (below_drew1 HB.out);have p473 : 0 ≤ (x20_2 : Int) := of_decide_eq_true (by first | (with_reducible assumption) | assumption);have q473 : x20_2 < (t430.length : Int) := of_decide_eq_true (by first | (with_reducible assumption) | assumption);obtain ⟨ad473, e473, hx473_0, hx473_1, hx473_2, hx473_3⟩ := at_T38 (Kd.R_reads' HO_435001.out).2.2 x20_2 p473 q473
         cases e473
         replace p473 := eq_true p473;replace q473 := eq_true q473;refine start_ (n := 14) (S := fun w' => w'.cell? ⟨gb428, 0, none⟩ = some (.int .i64 t422) ∧ w'.cell? ⟨gb428, 1, none⟩ = some (.slice Ao10 t423.length co10) ∧ w'.cell? ⟨gb434, 0, none⟩ = some (.int .i64 t429) ∧ w'.cell? ⟨gb434, 1, none⟩ = some (.slice (some ad473) t430.length co15) ∧ w'.cell? (ad473.add ((x20_2).toNat * 4)) = some (.int .i64 ((rd_T38 t430 x20_2).f0)) ∧ w'.cell? ⟨(ad473.add ((x20_2).toNat * 4)).block, (ad473.add ((x20_2).toNat * 4)).off + 1, none⟩ = some (.string ((rd_T38 t430 x20_2).f1)) ∧ w'.cell? ⟨(ad473.add ((x20_2).toNat * 4)).block, (ad473.add ((x20_2).toNat * 4)).off + 2, none⟩ = some (.int .i64 ((rd_T38 t430 x20_2).f2)) ∧ w'.cell? ⟨(ad473.add ((x20_2).toNat * 4)).block, (ad473.add ((x20_2).toNat * 4)).off + 3, none⟩ = some (.string ((rd_T38 t430 x20_2).f3))) (ds := []) #[ff,ff,ff,ff,ff,ff,ff,ff,ff,ff,ff,ff,ff,ff] (by kernel_rfl) rfl rfl ⟨(blk_cell BK428.out 0).trans rfl, (blk_cell BK428.out 1).trans rfl, (blk_cell BK434.out 0).trans rfl, (blk_cell BK434.out 1).trans rfl, hx473_0, hx473_1, hx473_2, hx473_3⟩ (fun hHeld => ?_); refine with_tabW laws_FnCatTake.tab16 laws_FnCatTake.bits16 (fun HT_ HW_ => ?_)
         generalize wr.drew = w114 at HO_429001 HO_435001 HO_441001 HO_467001 BK428 BK434 BK440 BK448 BK454 BK460 BK466 BK472 HB hx473_0 hx473_1 hx473_2 hx473_3 hHeld ⊢;refine pure_ (i := 1) (N := some 113) (v := ?_) (a' := ?_) #[ff,tt,ff,ff,ff,ff,ff,ff,ff,ff,ff,ff,ff,ff] rfl rfl (any_of HT_.out (by kernel_rfl)) (fun _ _ _ h => h) (Or.inl ⟨by rfl, ?_⟩) ?_ ?_;rotate_left
         ·intro w';go_simp;with_reducible rfl
         rotate_left;·simp only [Act.put, sB, s0, s1, i64_w, i32_w];rfl
         refine pure_ (i := 3) (N := some 115) (v := ?_) (a' := ?_) #[ff,tt,ff,tt,ff,ff,ff,ff,ff,ff,ff,ff,ff,ff] rfl rfl (any_of HT_.out (by kernel_rfl)) (fun _ _ _ h => h) (Or.inl ⟨by rfl, ?_⟩) ?_ ?_;rotate_left
         ·intro w';go_simp;with_reducible rfl
         rotate_left;·simp only [Act.put, sB, s0, s1, i64_w, i32_w];rfl
         refine take_ (i := 0) (N := some 112) (v := ?_) (a' := ?_) #[tt,tt,ff,tt,ff,ff,ff,ff,ff,ff,ff,ff,ff,ff] rfl rfl (take_ofW HT_.out HW_.out (by kernel_rfl)) (fun _ _ _ h => h) (Or.inl ⟨by rfl, ?_⟩) hHeld ?_ ?_;rotate_left
         ·rintro w' ⟨s0, s1, s2, s3, s4, s5, s6, s7⟩;go_simp;with_reducible rfl
         rotate_left;·simp only [Act.put, sB, s0, s1, i64_w, i32_w];rfl
         refine take_ (i := 2) (N := some 114) (v := ?_) (a' := ?_) #[tt,tt,tt,tt,ff,ff,ff,ff,ff,ff,ff,ff,ff,ff] rfl rfl (take_ofW HT_.out HW_.out (by kernel_rfl)) (fun _ _ _ h => h) (Or.inl ⟨by rfl, ?_⟩) hHeld ?_ ?_;rotate_left
         ·rintro w' ⟨s0, s1, s2, s3, s4, s5, s6, s7⟩;go_simp;with_reducible rfl
         rotate_left;·simp only [Act.put, sB, s0, s1, i64_w, i32_w];rfl
         refine pure_ (i := 4) (N := some 116) (v := ?_) (a' := ?_) #[tt,tt,tt,tt,tt,ff,ff,ff,ff,ff,ff,ff,ff,ff] rfl rfl (any_of HT_.out (by kernel_rfl)) (fun _ _ _ h => h) (Or.inl ⟨by rfl, ?_⟩) ?_ ?_;rotate_left
         ·intro w';go_simp;with_reducible rfl
         rotate_left;·simp only [Act.put, sB, s0, s1, i64_w, i32_w];rfl
         refine pure_ (i := 5) (N := some 117) (v := ?_) (a' := ?_) #[tt,tt,tt,tt,tt,tt,ff,ff,ff,ff,ff,ff,ff,ff] rfl rfl (any_of HT_.out (by kernel_rfl)) (fun _ _ _ h => h) (Or.inl ⟨by rfl, ?_⟩) ?_ ?_;rotate_left
         ·intro w';go_simp;with_reducible rfl
         rotate_left;·simp only [Act.put, sB, s0, s1, i64_w, i32_w];rfl
         refine take_ (i := 6) (N := some 118) (v := ?_) (a' := ?_) #[tt,tt,tt,tt,tt,tt,tt,ff,ff,ff,ff,ff,ff,ff] rfl rfl (take_ofW HT_.out HW_.out (by kernel_rfl)) (fun _ _ _ h => h) (Or.inl ⟨by rfl, ?_⟩) hHeld ?_ ?_;rotate_left
         ·rintro w' ⟨s0, s1, s2, s3, s4, s5, s6, s7⟩;go_simp;with_reducible rfl
         rotate_left;·simp only [Act.put, sB, s0, s1, i64_w, i32_w];rfl
         refine join_ (σ := Nat) 2 #[tt,tt,tt,tt,tt,tt,tt,tt,tt,tt,tt,tt,ff,ff] (fun s_ => [(119, .tuple #[.agg #[.int .i64 t474, .string t475, .int .i64 t476, .string t477], .bool t478]), (21, .pointer (some ⟨s_, 0, none⟩)), (111, .tuple #[.agg #[.int .i64 t474, .string t475, .int .i64 t476, .string t477], .bool t478]), (120, .agg #[.int .i64 t474, .string t475, .int .i64 t476, .string t477]), (121, .bool t478)]) (fun s_ w' => (w'.cell? ⟨gb428, 0, none⟩ = some (.int .i64 t422) ∧ w'.cell? ⟨gb428, 1, none⟩ = some (.slice Ao10 t423.length co10) ∧ w'.cell? ⟨gb434, 0, none⟩ = some (.int .i64 t429) ∧ w'.cell? ⟨gb434, 1, none⟩ = some (.slice (some ad473) t430.length co15) ∧ w'.cell? (ad473.add ((x20_2).toNat * 4)) = some (.int .i64 ((rd_T38 t430 x20_2).f0)) ∧ w'.cell? ⟨(ad473.add ((x20_2).toNat * 4)).block, (ad473.add ((x20_2).toNat * 4)).off + 1, none⟩ = some (.string ((rd_T38 t430 x20_2).f1)) ∧ w'.cell? ⟨(ad473.add ((x20_2).toNat * 4)).block, (ad473.add ((x20_2).toNat * 4)).off + 2, none⟩ = some (.int .i64 ((rd_T38 t430 x20_2).f2)) ∧ w'.cell? ⟨(ad473.add ((x20_2).toNat * 4)).block, (ad473.add ((x20_2).toNat * 4)).off + 3, none⟩ = some (.string ((rd_T38 t430 x20_2).f3))) ∧ (Kd.R k38 38 w' w.heap.size (fun k_ => some k_ ≠ (.slice (some ad473) t430.length co15 : Value).ownBlock ∧ some k_ ≠ (.slice Ao22 t436.length co22 : Value).ownBlock ∧ some k_ ≠ (.slice Ao91 t462.length co91 : Value).ownBlock ∧ k_ ≠ gb448 ∧ k_ ≠ gb454 ∧ k_ ≠ gb460 ∧ k_ ≠ gb472 ∧ k_ ≠ s_) (.slice Ao10 t423.length co10) t423) ∧ (Kd.R k38 38 w' w.heap.size (fun k_ => some k_ ≠ (.slice Ao10 t423.length co10 : Value).ownBlock ∧ some k_ ≠ (.slice Ao22 t436.length co22 : Value).ownBlock ∧ some k_ ≠ (.slice Ao91 t462.length co91 : Value).ownBlock ∧ k_ ≠ gb448 ∧ k_ ≠ gb454 ∧ k_ ≠ gb460 ∧ k_ ≠ gb472 ∧ k_ ≠ s_) (.slice (some ad473) t430.length co15) t430) ∧ (Kd.R k38 38 w' w.heap.size (fun k_ => some k_ ≠ (.slice Ao10 t423.length co10 : Value).ownBlock ∧ some k_ ≠ (.slice (some ad473) t430.length co15 : Value).ownBlock ∧ some k_ ≠ (.slice Ao91 t462.length co91 : Value).ownBlock ∧ k_ ≠ gb448 ∧ k_ ≠ gb454 ∧ k_ ≠ gb460 ∧ k_ ≠ gb472 ∧ k_ ≠ s_) (.slice Ao22 t436.length co22) t436) ∧ (Kd.R k38 38 w' w.heap.size (fun k_ => some k_ ≠ (.slice Ao10 t423.length co10 : Value).ownBlock ∧ some k_ ≠ (.slice (some ad473) t430.length co15 : Value).ownBlock ∧ some k_ ≠ (.slice Ao22 t436.length co22 : Value).ownBlock ∧ k_ ≠ gb448 ∧ k_ ≠ gb454 ∧ k_ ≠ gb460 ∧ k_ ≠ gb472 ∧ k_ ≠ s_) (.slice Ao91 t462.length co91) t462) ∧ (w'.heap[gb428]? = some (.cells #[.int .i64 t422, .slice Ao10 t423.length co10] 25 (0, 0))) ∧ (w'.heap[gb434]? = some (.cells #[.int .i64 t429, .slice (some ad473) t430.length co15] 25 (0, 0))) ∧ (w'.heap[gb440]? = some (.cells #[.int .i64 t435, .slice Ao22 t436.length co22] 25 (0, 0))) ∧ (w'.heap[gb448]? = some (.cells #[.int .i64 t443, .string t444, .int .i64 t445, .string t446] 38 (0, 0))) ∧ (w'.heap[gb454]? = some (.cells #[.int .i64 t449, .string t450, .int .i64 t451, .string t452] 38 (0, 0))) ∧ (w'.heap[gb460]? = some (.cells #[.int .i64 t455, .string t456, .int .i64 t457, .string t458] 38 (0, 0))) ∧ (w'.heap[gb466]? = some (.cells #[.int .i64 t461, .slice Ao91 t462.length co91] 25 (0, 0))) ∧ (w'.heap[gb472]? = some (.cells #[.int .i64 t467, .string t468, .int .i64 t469, .string t470] 38 (0, 0))) ∧ (w'.heap[s_]? = some (.cells #[.int .i64 0, .string (⟨#[]⟩ : ByteArray), .int .i64 0, .string (⟨#[]⟩ : ByteArray)] 38 (0, 0))) ∧ (w.heap.size ≤ s_) ∧ (w.heap.size ≤ s_) ∧ (gb428 ≠ s_) ∧ (s_ ≠ gb428) ∧ (gb434 ≠ s_) ∧ (s_ ≠ gb434) ∧ (gb440 ≠ s_) ∧ (s_ ≠ gb440) ∧ (gb448 ≠ s_) ∧ (s_ ≠ gb448) ∧ (gb454 ≠ s_) ∧ (s_ ≠ gb454) ∧ (gb460 ≠ s_) ∧ (s_ ≠ gb460) ∧ (gb466 ≠ s_) ∧ (s_ ≠ gb466) ∧ (gb472 ≠ s_) ∧ (s_ ≠ gb472) ∧ (Below w.heap.size w w')) ?_ ?_;rotate_left
         ·intro hCont;refine two_ (i := 7) (j := 11) (Ni := some 119) (Nj := some 21) #[tt,tt,tt,tt,tt,tt,tt,tt,ff,ff,ff,ff,ff,ff] #[tt,tt,tt,tt,tt,tt,tt,ff,ff,ff,ff,tt,ff,ff] rfl rfl rfl rfl (two_of HT_.out (by kernel_rfl)) (by decide) (by decide) (fun K hK => ?_) (fun K hK => ?_)
          ·skip
           refine goes_ Try.func15 (by kernel_rfl) rfl #[.agg #[.int .i64 t422, .slice Ao10 t423.length co10], .int .i64 ((rd_T38 t430 x20_2).f2)] (by rfl) rfl rfl (by (try simp only [List.map_toArray, List.map_cons, List.map_nil]); first | done | rfl | (simp only [List.length_drop, List.length_take]; rfl)) ?_
           with_reducible refine (impl_CatEdition.calls k2 t422 _ _ t423 ((rd_T38 t430 x20_2).f2) t474 t475 t476 t477 t478 _ ?side1 ?side2 A104.out).mono ?_
           (case side1 => exact Kd.cR HO_429001)
           (case side2 => exact (Kd.R_reads' HO_429001.out).2.1)
           rintro e w115 ⟨rfl, hb⟩;have HS4_ := (hb.cell (World.block_lt_of_cell? _ _ (hHeld.2.2.2.2.1))).trans (hHeld.2.2.2.2.1);have HS5_ := (hb.cell (World.block_lt_of_cell? _ _ (hHeld.2.2.2.2.2.1))).trans (hHeld.2.2.2.2.2.1);have HS6_ := (hb.cell (World.block_lt_of_cell? _ _ (hHeld.2.2.2.2.2.2.1))).trans (hHeld.2.2.2.2.2.2.1);have HS7_ := (hb.cell (World.block_lt_of_cell? _ _ (hHeld.2.2.2.2.2.2.2))).trans (hHeld.2.2.2.2.2.2.2);refine ⟨_, rfl, ?_⟩;replace HO_429001 := Kd.rR HO_429001 hb;replace HO_435001 := Kd.rR HO_435001 hb;replace HO_441001 := Kd.rR HO_441001 hb;replace HO_467001 := Kd.rR HO_467001 hb;replace BK428 := kb BK428 hb;replace BK434 := kb BK434 hb;replace BK440 := kb BK440 hb;replace BK448 := kb BK448 hb;replace BK454 := kb BK454 hb;replace BK460 := kb BK460 hb;replace BK466 := kb BK466 hb;replace BK472 := kb BK472 hb;replace HB := hbb HB hb
           (try clear hb)
           (try clear hb2)
           (try clear hk)
           (try clear hi)
           refine hK.out _ _ ⟨(blk_cell BK428.out 0).trans rfl, (blk_cell BK428.out 1).trans rfl, (blk_cell BK434.out 0).trans rfl, (blk_cell BK434.out 1).trans rfl, HS4_, HS5_, HS6_, HS7_⟩ (fun hHeld => ?_);clear hK K;refine norm_ (a' := ?_) ?_ ?_;rotate_left
           ·show Act.put _ (some 119) _ = _;simp only [Act.put, sB, s0, s1, i64_w, i32_w];rfl
           refine pure_ (i := 8) (N := some 111) (v := ?_) (a' := ?_) #[tt,tt,tt,tt,tt,tt,tt,tt,tt,ff,ff,ff,ff,ff] rfl rfl (any_of HT_.out (by kernel_rfl)) (fun _ _ _ h => h) (Or.inl ⟨by rfl, ?_⟩) ?_ ?_;rotate_left
           ·intro w';go_simp;with_reducible rfl
           rotate_left;·simp only [Act.put, sB, s0, s1, i64_w, i32_w];rfl
           refine pure_ (i := 9) (N := some 120) (v := ?_) (a' := ?_) #[tt,tt,tt,tt,tt,tt,tt,tt,tt,tt,ff,ff,ff,ff] rfl rfl (any_of HT_.out (by kernel_rfl)) (fun _ _ _ h => h) (Or.inl ⟨by rfl, ?_⟩) ?_ ?_;rotate_left
           ·intro w';go_simp;with_reducible rfl
           rotate_left;·simp only [Act.put, sB, s0, s1, i64_w, i32_w];rfl
           refine pure_ (i := 10) (N := some 121) (v := ?_) (a' := ?_) #[tt,tt,tt,tt,tt,tt,tt,tt,tt,tt,tt,ff,ff,ff] rfl rfl (any_of HT_.out (by kernel_rfl)) (fun _ _ _ h => h) (Or.inl ⟨by rfl, ?_⟩) ?_ ?_;rotate_left
           ·intro w';go_simp;with_reducible rfl
           rotate_left;·simp only [Act.put, sB, s0, s1, i64_w, i32_w];rfl
           refine one_ (i := 11) (N := some 21) #[tt,tt,tt,tt,tt,tt,tt,tt,tt,tt,tt,tt,ff,ff] rfl rfl (one_of HT_.out (by kernel_rfl)) (by decide) (fun K hK => ?_);refine box_step ?hg (N := 21) ?hd (cs := #[.int .i64 0, .string (⟨#[]⟩ : ByteArray), .int .i64 0, .string (⟨#[]⟩ : ByteArray)]) (t := 38) ?hr ?_; (case hd => rfl); (case hg => rfl); (case hr => first | (go_simp; done) | (go_simp; rfl))
           intro gb479 hg w116 hbox hb;have HS4_ := (hb.cell (World.block_lt_of_cell? _ _ (hHeld.2.2.2.2.1))).trans (hHeld.2.2.2.2.1);have HS5_ := (hb.cell (World.block_lt_of_cell? _ _ (hHeld.2.2.2.2.2.1))).trans (hHeld.2.2.2.2.2.1);have HS6_ := (hb.cell (World.block_lt_of_cell? _ _ (hHeld.2.2.2.2.2.2.1))).trans (hHeld.2.2.2.2.2.2.1);have HS7_ := (hb.cell (World.block_lt_of_cell? _ _ (hHeld.2.2.2.2.2.2.2))).trans (hHeld.2.2.2.2.2.2.2);have BK479 := Aside0.mk (hbox);have GW479 := gw HB hg;have GE479 := gw HB hg;have NB428_479 := nl BK428 hg;have NB479_428 := ng BK428 hg;have NB434_479 := nl BK434 hg;have NB479_434 := ng BK434 hg;have NB440_479 := nl BK440 hg;have NB479_440 := ng BK440 hg;have NB448_479 := nl BK448 hg;have NB479_448 := ng BK448 hg;have NB454_479 := nl BK454 hg;have NB479_454 := ng BK454 hg;have NB460_479 := nl BK460 hg;have NB479_460 := ng BK460 hg;have NB466_479 := nl BK466 hg;have NB479_466 := ng BK466 hg;have NB472_479 := nl BK472 hg;have NB479_472 := ng BK472 hg;replace HO_429001 := Kd.eR HO_429001 hg hb;replace HO_435001 := Kd.eR HO_435001 hg hb;replace HO_441001 := Kd.eR HO_441001 hg hb;replace HO_467001 := Kd.eR HO_467001 hg hb;replace BK428 := kb BK428 hb;replace BK434 := kb BK434 hb;replace BK440 := kb BK440 hb;replace BK448 := kb BK448 hb;replace BK454 := kb BK454 hb;replace BK460 := kb BK460 hb;replace BK466 := kb BK466 hb;replace BK472 := kb BK472 hb;replace HB := hbb HB hb;clear hb hbox hg;refine hK.out _ _ ⟨(blk_cell BK428.out 0).trans rfl, (blk_cell BK428.out 1).trans rfl, (blk_cell BK434.out 0).trans rfl, (blk_cell BK434.out 1).trans rfl, HS4_, HS5_, HS6_, HS7_⟩ (fun hHeld => ?_);clear hK K;refine norm_ (a' := ?_) ?_ ?_;rotate_left
           ·show Act.put _ (some 21) _ = _;simp only [Act.put, sB, s0, s1, i64_w, i32_w];rfl
           exact norm_ (by simp only [putAll, Act.put, sB, s0, s1]) (hCont (gb479) _ ⟨hHeld, (by exact Kd.R_lat (Kd.R_mono HO_429001.out (fun _ hk => ⟨hk.1.1, ⟨hk.1.2.1, ⟨hk.1.2.2.1, ⟨hk.1.2.2.2.1, ⟨hk.1.2.2.2.2.1, ⟨hk.1.2.2.2.2.2.1, ⟨hk.1.2.2.2.2.2.2, hk.2⟩⟩⟩⟩⟩⟩⟩))), (by exact Kd.R_lat (Kd.R_mono HO_435001.out (fun _ hk => ⟨hk.1.1, ⟨hk.1.2.1, ⟨hk.1.2.2.1, ⟨hk.1.2.2.2.1, ⟨hk.1.2.2.2.2.1, ⟨hk.1.2.2.2.2.2.1, ⟨hk.1.2.2.2.2.2.2, hk.2⟩⟩⟩⟩⟩⟩⟩))), (by exact Kd.R_lat (Kd.R_mono HO_441001.out (fun _ hk => ⟨hk.1.1, ⟨hk.1.2.1, ⟨hk.1.2.2.1, ⟨hk.1.2.2.2.1, ⟨hk.1.2.2.2.2.1, ⟨hk.1.2.2.2.2.2.1, ⟨hk.1.2.2.2.2.2.2, hk.2⟩⟩⟩⟩⟩⟩⟩))), (by exact Kd.R_lat (Kd.R_mono HO_467001.out (fun _ hk => ⟨hk.1.1, ⟨hk.1.2.1, ⟨hk.1.2.2.1, ⟨hk.1.2.2.2.1, ⟨hk.1.2.2.2.2.1, ⟨hk.1.2.2.2.2.2.1, ⟨hk.1.2.2.2.2.2.2, hk.2⟩⟩⟩⟩⟩⟩⟩))), (bl BK428.out), (bl BK434.out), (bl BK440.out), (bl BK448.out), (bl BK454.out), (bl BK460.out), (bl BK466.out), (bl BK472.out), (bl BK479.out), GW479.out, GE479.out, NB428_479.out, NB479_428.out, NB434_479.out, NB479_434.out, NB440_479.out, NB479_440.out, NB448_479.out, NB479_448.out, NB454_479.out, NB479_454.out, NB460_479.out, NB479_460.out, NB466_479.out, NB479_466.out, NB472_479.out, NB479_472.out, (by exact bb HB.out)⟩)
          skip
          refine box_step ?hg (N := 21) ?hd (cs := #[.int .i64 0, .string (⟨#[]⟩ : ByteArray), .int .i64 0, .string (⟨#[]⟩ : ByteArray)]) (t := 38) ?hr ?_; (case hd => rfl); (case hg => rfl); (case hr => first | (go_simp; done) | (go_simp; rfl))
          intro gb479 hg w115 hbox hb;have HS4_ := (hb.cell (World.block_lt_of_cell? _ _ (hHeld.2.2.2.2.1))).trans (hHeld.2.2.2.2.1);have HS5_ := (hb.cell (World.block_lt_of_cell? _ _ (hHeld.2.2.2.2.2.1))).trans (hHeld.2.2.2.2.2.1);have HS6_ := (hb.cell (World.block_lt_of_cell? _ _ (hHeld.2.2.2.2.2.2.1))).trans (hHeld.2.2.2.2.2.2.1);have HS7_ := (hb.cell (World.block_lt_of_cell? _ _ (hHeld.2.2.2.2.2.2.2))).trans (hHeld.2.2.2.2.2.2.2);have BK479 := Aside0.mk (hbox);have GW479 := gw HB hg;have GE479 := gw HB hg;have NB428_479 := nl BK428 hg;have NB479_428 := ng BK428 hg;have NB434_479 := nl BK434 hg;have NB479_434 := ng BK434 hg;have NB440_479 := nl BK440 hg;have NB479_440 := ng BK440 hg;have NB448_479 := nl BK448 hg;have NB479_448 := ng BK448 hg;have NB454_479 := nl BK454 hg;have NB479_454 := ng BK454 hg;have NB460_479 := nl BK460 hg;have NB479_460 := ng BK460 hg;have NB466_479 := nl BK466 hg;have NB479_466 := ng BK466 hg;have NB472_479 := nl BK472 hg;have NB479_472 := ng BK472 hg;replace HO_429001 := Kd.eR HO_429001 hg hb;replace HO_435001 := Kd.eR HO_435001 hg hb;replace HO_441001 := Kd.eR HO_441001 hg hb;replace HO_467001 := Kd.eR HO_467001 hg hb;replace BK428 := kb BK428 hb;replace BK434 := kb BK434 hb;replace BK440 := kb BK440 hb;replace BK448 := kb BK448 hb;replace BK454 := kb BK454 hb;replace BK460 := kb BK460 hb;replace BK466 := kb BK466 hb;replace BK472 := kb BK472 hb;replace HB := hbb HB hb;clear hb hbox hg;refine hK.out _ _ ⟨(blk_cell BK428.out 0).trans rfl, (blk_cell BK428.out 1).trans rfl, (blk_cell BK434.out 0).trans rfl, (blk_cell BK434.out 1).trans rfl, HS4_, HS5_, HS6_, HS7_⟩ (fun hHeld => ?_);clear hK K;refine norm_ (a' := ?_) ?_ ?_;rotate_left
          ·show Act.put _ (some 21) _ = _;simp only [Act.put, sB, s0, s1, i64_w, i32_w];rfl
          refine one_ (i := 7) (N := some 119) #[tt,tt,tt,tt,tt,tt,tt,tt,ff,ff,ff,tt,ff,ff] rfl rfl (one_of HT_.out (by kernel_rfl)) (by decide) (fun K hK => ?_);refine goes_ Try.func15 (by kernel_rfl) rfl #[.agg #[.int .i64 t422, .slice Ao10 t423.length co10], .int .i64 ((rd_T38 t430 x20_2).f2)] (by rfl) rfl rfl (by (try simp only [List.map_toArray, List.map_cons, List.map_nil]); first | done | rfl | (simp only [List.length_drop, List.length_take]; rfl)) ?_
          with_reducible refine (impl_CatEdition.calls k2 t422 _ _ t423 ((rd_T38 t430 x20_2).f2) t474 t475 t476 t477 t478 _ ?side1 ?side2 A104.out).mono ?_
          (case side1 => exact Kd.cR HO_429001)
          (case side2 => exact (Kd.R_reads' HO_429001.out).2.1)
          rintro e w116 ⟨rfl, hb⟩;have HS4_ := (hb.cell (World.block_lt_of_cell? _ _ (hHeld.2.2.2.2.1))).trans (hHeld.2.2.2.2.1);have HS5_ := (hb.cell (World.block_lt_of_cell? _ _ (hHeld.2.2.2.2.2.1))).trans (hHeld.2.2.2.2.2.1);have HS6_ := (hb.cell (World.block_lt_of_cell? _ _ (hHeld.2.2.2.2.2.2.1))).trans (hHeld.2.2.2.2.2.2.1);have HS7_ := (hb.cell (World.block_lt_of_cell? _ _ (hHeld.2.2.2.2.2.2.2))).trans (hHeld.2.2.2.2.2.2.2);refine ⟨_, rfl, ?_⟩;replace HO_429001 := Kd.rR HO_429001 hb;replace HO_435001 := Kd.rR HO_435001 hb;replace HO_441001 := Kd.rR HO_441001 hb;replace HO_467001 := Kd.rR HO_467001 hb;replace BK428 := kb BK428 hb;replace BK434 := kb BK434 hb;replace BK440 := kb BK440 hb;replace BK448 := kb BK448 hb;replace BK454 := kb BK454 hb;replace BK460 := kb BK460 hb;replace BK466 := kb BK466 hb;replace BK472 := kb BK472 hb;replace BK479 := kb BK479 hb;replace HB := hbb HB hb
          (try clear hb)
          (try clear hb2)
          (try clear hk)
          (try clear hi)
          refine hK.out _ _ ⟨(blk_cell BK428.out 0).trans rfl, (blk_cell BK428.out 1).trans rfl, (blk_cell BK434.out 0).trans rfl, (blk_cell BK434.out 1).trans rfl, HS4_, HS5_, HS6_, HS7_⟩ (fun hHeld => ?_);clear hK K;refine norm_ (a' := ?_) ?_ ?_;rotate_left
          ·show Act.put _ (some 119) _ = _;simp only [Act.put, sB, s0, s1, i64_w, i32_w];rfl
          refine pure_ (i := 8) (N := some 111) (v := ?_) (a' := ?_) #[tt,tt,tt,tt,tt,tt,tt,tt,tt,ff,ff,tt,ff,ff] rfl rfl (any_of HT_.out (by kernel_rfl)) (fun _ _ _ h => h) (Or.inl ⟨by rfl, ?_⟩) ?_ ?_;rotate_left
          ·intro w';go_simp;with_reducible rfl
          rotate_left;·simp only [Act.put, sB, s0, s1, i64_w, i32_w];rfl
          refine pure_ (i := 9) (N := some 120) (v := ?_) (a' := ?_) #[tt,tt,tt,tt,tt,tt,tt,tt,tt,tt,ff,tt,ff,ff] rfl rfl (any_of HT_.out (by kernel_rfl)) (fun _ _ _ h => h) (Or.inl ⟨by rfl, ?_⟩) ?_ ?_;rotate_left
          ·intro w';go_simp;with_reducible rfl
          rotate_left;·simp only [Act.put, sB, s0, s1, i64_w, i32_w];rfl
          refine pure_ (i := 10) (N := some 121) (v := ?_) (a' := ?_) #[tt,tt,tt,tt,tt,tt,tt,tt,tt,tt,tt,tt,ff,ff] rfl rfl (any_of HT_.out (by kernel_rfl)) (fun _ _ _ h => h) (Or.inl ⟨by rfl, ?_⟩) ?_ ?_;rotate_left
          ·intro w';go_simp;with_reducible rfl
          rotate_left;·simp only [Act.put, sB, s0, s1, i64_w, i32_w];rfl
          exact norm_ (by simp only [putAll, Act.put, sB, s0, s1]) (hCont (gb479) _ ⟨hHeld, (by exact Kd.R_lat (Kd.R_mono HO_429001.out (fun _ hk => ⟨hk.1.1, ⟨hk.1.2.1, ⟨hk.1.2.2.1, ⟨hk.1.2.2.2.1, ⟨hk.1.2.2.2.2.1, ⟨hk.1.2.2.2.2.2.1, ⟨hk.1.2.2.2.2.2.2, hk.2⟩⟩⟩⟩⟩⟩⟩))), (by exact Kd.R_lat (Kd.R_mono HO_435001.out (fun _ hk => ⟨hk.1.1, ⟨hk.1.2.1, ⟨hk.1.2.2.1, ⟨hk.1.2.2.2.1, ⟨hk.1.2.2.2.2.1, ⟨hk.1.2.2.2.2.2.1, ⟨hk.1.2.2.2.2.2.2, hk.2⟩⟩⟩⟩⟩⟩⟩))), (by exact Kd.R_lat (Kd.R_mono HO_441001.out (fun _ hk => ⟨hk.1.1, ⟨hk.1.2.1, ⟨hk.1.2.2.1, ⟨hk.1.2.2.2.1, ⟨hk.1.2.2.2.2.1, ⟨hk.1.2.2.2.2.2.1, ⟨hk.1.2.2.2.2.2.2, hk.2⟩⟩⟩⟩⟩⟩⟩))), (by exact Kd.R_lat (Kd.R_mono HO_467001.out (fun _ hk => ⟨hk.1.1, ⟨hk.1.2.1, ⟨hk.1.2.2.1, ⟨hk.1.2.2.2.1, ⟨hk.1.2.2.2.2.1, ⟨hk.1.2.2.2.2.2.1, ⟨hk.1.2.2.2.2.2.2, hk.2⟩⟩⟩⟩⟩⟩⟩))), (bl BK428.out), (bl BK434.out), (bl BK440.out), (bl BK448.out), (bl BK454.out), (bl BK460.out), (bl BK466.out), (bl BK472.out), (bl BK479.out), GW479.out, GE479.out, NB428_479.out, NB479_428.out, NB434_479.out, NB479_434.out, NB440_479.out, NB479_440.out, NB448_479.out, NB479_448.out, NB454_479.out, NB479_454.out, NB460_479.out, NB479_460.out, NB466_479.out, NB479_466.out, NB472_479.out, NB479_472.out, (by exact bb HB.out)⟩)
         rintro gb479 w117 ⟨hS_, h0_, h1_, h2_, h3_, h4_, h5_, h6_, h7_, h8_, h9_, h10_, h11_, h12_, h13_, h14_, h15_, h16_, h17_, h18_, h19_, h20_, h21_, h22_, h23_, h24_, h25_, h26_, h27_, h28_, h29_, h30_, h31_⟩;have n0_ : Aside0 (Kd.R k38 38 w117 w.heap.size (fun k_ => some k_ ≠ (.slice (some ad473) t430.length co15 : Value).ownBlock ∧ some k_ ≠ (.slice Ao22 t436.length co22 : Value).ownBlock ∧ some k_ ≠ (.slice Ao91 t462.length co91 : Value).ownBlock ∧ k_ ≠ gb448 ∧ k_ ≠ gb454 ∧ k_ ≠ gb460 ∧ k_ ≠ gb472 ∧ k_ ≠ gb479) (.slice Ao10 t423.length co10) t423) := ⟨h0_⟩;have n1_ : Aside0 (Kd.R k38 38 w117 w.heap.size (fun k_ => some k_ ≠ (.slice Ao10 t423.length co10 : Value).ownBlock ∧ some k_ ≠ (.slice Ao22 t436.length co22 : Value).ownBlock ∧ some k_ ≠ (.slice Ao91 t462.length co91 : Value).ownBlock ∧ k_ ≠ gb448 ∧ k_ ≠ gb454 ∧ k_ ≠ gb460 ∧ k_ ≠ gb472 ∧ k_ ≠ gb479) (.slice (some ad473) t430.length co15) t430) := ⟨h1_⟩;have n2_ : Aside0 (Kd.R k38 38 w117 w.heap.size (fun k_ => some k_ ≠ (.slice Ao10 t423.length co10 : Value).ownBlock ∧ some k_ ≠ (.slice (some ad473) t430.length co15 : Value).ownBlock ∧ some k_ ≠ (.slice Ao91 t462.length co91 : Value).ownBlock ∧ k_ ≠ gb448 ∧ k_ ≠ gb454 ∧ k_ ≠ gb460 ∧ k_ ≠ gb472 ∧ k_ ≠ gb479) (.slice Ao22 t436.length co22) t436) := ⟨h2_⟩;have n3_ : Aside0 (Kd.R k38 38 w117 w.heap.size (fun k_ => some k_ ≠ (.slice Ao10 t423.length co10 : Value).ownBlock ∧ some k_ ≠ (.slice (some ad473) t430.length co15 : Value).ownBlock ∧ some k_ ≠ (.slice Ao22 t436.length co22 : Value).ownBlock ∧ k_ ≠ gb448 ∧ k_ ≠ gb454 ∧ k_ ≠ gb460 ∧ k_ ≠ gb472 ∧ k_ ≠ gb479) (.slice Ao91 t462.length co91) t462) := ⟨h3_⟩;have n4_ : Aside0 (w117.heap[gb428]? = some (.cells #[.int .i64 t422, .slice Ao10 t423.length co10] 25 (0, 0))) := ⟨h4_⟩;have n5_ : Aside0 (w117.heap[gb434]? = some (.cells #[.int .i64 t429, .slice (some ad473) t430.length co15] 25 (0, 0))) := ⟨h5_⟩;have n6_ : Aside0 (w117.heap[gb440]? = some (.cells #[.int .i64 t435, .slice Ao22 t436.length co22] 25 (0, 0))) := ⟨h6_⟩;have n7_ : Aside0 (w117.heap[gb448]? = some (.cells #[.int .i64 t443, .string t444, .int .i64 t445, .string t446] 38 (0, 0))) := ⟨h7_⟩;have n8_ : Aside0 (w117.heap[gb454]? = some (.cells #[.int .i64 t449, .string t450, .int .i64 t451, .string t452] 38 (0, 0))) := ⟨h8_⟩;have n9_ : Aside0 (w117.heap[gb460]? = some (.cells #[.int .i64 t455, .string t456, .int .i64 t457, .string t458] 38 (0, 0))) := ⟨h9_⟩;have n10_ : Aside0 (w117.heap[gb466]? = some (.cells #[.int .i64 t461, .slice Ao91 t462.length co91] 25 (0, 0))) := ⟨h10_⟩;have n11_ : Aside0 (w117.heap[gb472]? = some (.cells #[.int .i64 t467, .string t468, .int .i64 t469, .string t470] 38 (0, 0))) := ⟨h11_⟩;have n12_ : Aside0 (w117.heap[gb479]? = some (.cells #[.int .i64 0, .string (⟨#[]⟩ : ByteArray), .int .i64 0, .string (⟨#[]⟩ : ByteArray)] 38 (0, 0))) := ⟨h12_⟩;have n13_ : Aside0 (w.heap.size ≤ gb479) := ⟨h13_⟩;have n14_ : Aside0 (w.heap.size ≤ gb479) := ⟨h14_⟩;have n15_ : Aside0 (gb428 ≠ gb479) := ⟨h15_⟩;have n16_ : Aside0 (gb479 ≠ gb428) := ⟨h16_⟩;have n17_ : Aside0 (gb434 ≠ gb479) := ⟨h17_⟩;have n18_ : Aside0 (gb479 ≠ gb434) := ⟨h18_⟩;have n19_ : Aside0 (gb440 ≠ gb479) := ⟨h19_⟩;have n20_ : Aside0 (gb479 ≠ gb440) := ⟨h20_⟩;have n21_ : Aside0 (gb448 ≠ gb479) := ⟨h21_⟩;have n22_ : Aside0 (gb479 ≠ gb448) := ⟨h22_⟩;have n23_ : Aside0 (gb454 ≠ gb479) := ⟨h23_⟩;have n24_ : Aside0 (gb479 ≠ gb454) := ⟨h24_⟩;have n25_ : Aside0 (gb460 ≠ gb479) := ⟨h25_⟩;have n26_ : Aside0 (gb479 ≠ gb460) := ⟨h26_⟩;have n27_ : Aside0 (gb466 ≠ gb479) := ⟨h27_⟩;have n28_ : Aside0 (gb479 ≠ gb466) := ⟨h28_⟩;have n29_ : Aside0 (gb472 ≠ gb479) := ⟨h29_⟩;have n30_ : Aside0 (gb479 ≠ gb472) := ⟨h30_⟩;have n31_ : Aside0 (Below w.heap.size w w117) := ⟨h31_⟩;clear HO_429001;clear HO_435001;clear HO_441001;clear HO_467001;clear BK428;clear BK434;clear BK440;clear BK448;clear BK454;clear BK460;clear BK466;clear BK472;clear HB;clear h0_ h1_ h2_ h3_ h4_ h5_ h6_ h7_ h8_ h9_ h10_ h11_ h12_ h13_ h14_ h15_ h16_ h17_ h18_ h19_ h20_ h21_ h22_ h23_ h24_ h25_ h26_ h27_ h28_ h29_ h30_ h31_;have HO_429001 := n0_;have HO_435001 := n1_;have HO_441001 := n2_;have HO_467001 := n3_;have BK428 := n4_;have BK434 := n5_;have BK440 := n6_;have BK448 := n7_;have BK454 := n8_;have BK460 := n9_;have BK466 := n10_;have BK472 := n11_;have BK479 := n12_;have GW479 := n13_;have GE479 := n14_;have NB428_479 := n15_;have NB479_428 := n16_;have NB434_479 := n17_;have NB479_434 := n18_;have NB440_479 := n19_;have NB479_440 := n20_;have NB448_479 := n21_;have NB479_448 := n22_;have NB454_479 := n23_;have NB479_454 := n24_;have NB460_479 := n25_;have NB479_460 := n26_;have NB466_479 := n27_;have NB479_466 := n28_;have NB472_479 := n29_;have NB479_472 := n30_;have HB := n31_;clear n0_ n1_ n2_ n3_ n4_ n5_ n6_ n7_ n8_ n9_ n10_ n11_ n12_ n13_ n14_ n15_ n16_ n17_ n18_ n19_ n20_ n21_ n22_ n23_ n24_ n25_ n26_ n27_ n28_ n29_ n30_ n31_;have hHeld : w117.cell? ⟨gb428, 0, none⟩ = some (.int .i64 t422) ∧ w117.cell? ⟨gb428, 1, none⟩ = some (.slice Ao10 t423.length co10) ∧ w117.cell? ⟨gb434, 0, none⟩ = some (.int .i64 t429) ∧ w117.cell? ⟨gb434, 1, none⟩ = some (.slice (some ad473) t430.length co15) ∧ w117.cell? (ad473.add ((x20_2).toNat * 4)) = some (.int .i64 ((rd_T38 t430 x20_2).f0)) ∧ w117.cell? ⟨(ad473.add ((x20_2).toNat * 4)).block, (ad473.add ((x20_2).toNat * 4)).off + 1, none⟩ = some (.string ((rd_T38 t430 x20_2).f1)) ∧ w117.cell? ⟨(ad473.add ((x20_2).toNat * 4)).block, (ad473.add ((x20_2).toNat * 4)).off + 2, none⟩ = some (.int .i64 ((rd_T38 t430 x20_2).f2)) ∧ w117.cell? ⟨(ad473.add ((x20_2).toNat * 4)).block, (ad473.add ((x20_2).toNat * 4)).off + 3, none⟩ = some (.string ((rd_T38 t430 x20_2).f3)) := hS_;refine norm_ (a' := ?_) ?_ ?_;rotate_left
         ·simp only [putAll, Act.put, sB, s0, s1];rfl
         refine one_ (i := 12) (N := none) #[tt,tt,tt,tt,tt,tt,tt,tt,tt,tt,tt,tt,tt,ff] rfl rfl (one_of HT_.out (by kernel_rfl)) (by decide) (fun K hK => ?_);have hs118 : w117.cell? ⟨gb479, 0, none⟩ = some (.int .i64 0) := (blk_cell BK479.out 0).trans rfl;have hfs118 := blk_frozen BK479.out 0;have hns118_0 := NB428_479.out;have hns118_1 := NB434_479.out;have hns118_2 := NB440_479.out;have hns118_3 := NB448_479.out;have hns118_4 := NB454_479.out;have hns118_5 := NB460_479.out;have hns118_6 := NB466_479.out;have hns118_7 := NB472_479.out;have hms118_0 := NB479_428.out;have hms118_1 := NB479_434.out;have hms118_2 := NB479_440.out;have hms118_3 := NB479_448.out;have hms118_4 := NB479_454.out;have hms118_5 := NB479_460.out;have hms118_6 := NB479_466.out;have hms118_7 := NB479_472.out;have hs119 : w117.cell? ⟨gb479, 1, none⟩ = some (.string (⟨#[]⟩ : ByteArray)) := (blk_cell BK479.out 1).trans rfl;have hfs119 := blk_frozen BK479.out 1;have hns119_0 := NB428_479.out;have hns119_1 := NB434_479.out;have hns119_2 := NB440_479.out;have hns119_3 := NB448_479.out;have hns119_4 := NB454_479.out;have hns119_5 := NB460_479.out;have hns119_6 := NB466_479.out;have hns119_7 := NB472_479.out;have hms119_0 := NB479_428.out;have hms119_1 := NB479_434.out;have hms119_2 := NB479_440.out;have hms119_3 := NB479_448.out;have hms119_4 := NB479_454.out;have hms119_5 := NB479_460.out;have hms119_6 := NB479_466.out;have hms119_7 := NB479_472.out;have hs120 : w117.cell? ⟨gb479, 2, none⟩ = some (.int .i64 0) := (blk_cell BK479.out 2).trans rfl;have hfs120 := blk_frozen BK479.out 2;have hns120_0 := NB428_479.out;have hns120_1 := NB434_479.out;have hns120_2 := NB440_479.out;have hns120_3 := NB448_479.out;have hns120_4 := NB454_479.out;have hns120_5 := NB460_479.out;have hns120_6 := NB466_479.out;have hns120_7 := NB472_479.out;have hms120_0 := NB479_428.out;have hms120_1 := NB479_434.out;have hms120_2 := NB479_440.out;have hms120_3 := NB479_448.out;have hms120_4 := NB479_454.out;have hms120_5 := NB479_460.out;have hms120_6 := NB479_466.out;have hms120_7 := NB479_472.out;have hs121 : w117.cell? ⟨gb479, 3, none⟩ = some (.string (⟨#[]⟩ : ByteArray)) := (blk_cell BK479.out 3).trans rfl;have hfs121 := blk_frozen BK479.out 3;have hns121_0 := NB428_479.out;have hns121_1 := NB434_479.out;have hns121_2 := NB440_479.out;have hns121_3 := NB448_479.out;have hns121_4 := NB454_479.out;have hns121_5 := NB460_479.out;have hns121_6 := NB466_479.out;have hns121_7 := NB472_479.out;have hms121_0 := NB479_428.out;have hms121_1 := NB479_434.out;have hms121_2 := NB479_440.out;have hms121_3 := NB479_448.out;have hms121_4 := NB479_454.out;have hms121_5 := NB479_460.out;have hms121_6 := NB479_466.out;have hms121_7 := NB479_472.out;refine skip_ (w1 := ?_) (by rfl) rfl ?_ ?_;rotate_left
         ·go_simp;rfl
         refine hK.out _ _ ⟨((cell_far (p := ⟨gb479, _, none⟩) NB428_479.out _).trans (((cell_far (p := ⟨gb479, _, none⟩) NB428_479.out _).trans (((cell_far (p := ⟨gb479, _, none⟩) NB428_479.out _).trans (((cell_far (p := ⟨gb479, _, none⟩) NB428_479.out _).trans (hHeld.1)))))))), ((cell_far (p := ⟨gb479, _, none⟩) NB428_479.out _).trans (((cell_far (p := ⟨gb479, _, none⟩) NB428_479.out _).trans (((cell_far (p := ⟨gb479, _, none⟩) NB428_479.out _).trans (((cell_far (p := ⟨gb479, _, none⟩) NB428_479.out _).trans (hHeld.2.1)))))))), ((cell_far (p := ⟨gb479, _, none⟩) NB434_479.out _).trans (((cell_far (p := ⟨gb479, _, none⟩) NB434_479.out _).trans (((cell_far (p := ⟨gb479, _, none⟩) NB434_479.out _).trans (((cell_far (p := ⟨gb479, _, none⟩) NB434_479.out _).trans (hHeld.2.2.1)))))))), ((cell_far (p := ⟨gb479, _, none⟩) NB434_479.out _).trans (((cell_far (p := ⟨gb479, _, none⟩) NB434_479.out _).trans (((cell_far (p := ⟨gb479, _, none⟩) NB434_479.out _).trans (((cell_far (p := ⟨gb479, _, none⟩) NB434_479.out _).trans (hHeld.2.2.2.1)))))))), ((cell_far (p := ⟨gb479, _, none⟩) (by first | exact Kd.own_blk (Kd.R_away HO_435001.out (fun _ hk => hk.2.2.2.2.2.2.2)) | (rw [add_block]; exact Kd.own_blk (Kd.R_away HO_435001.out (fun _ hk => hk.2.2.2.2.2.2.2))) | (show (Addr.add _ _).block ≠ _; rw [add_block]; exact Kd.own_blk (Kd.R_away HO_435001.out (fun _ hk => hk.2.2.2.2.2.2.2))) | (dsimp only; exact Kd.own_blk (Kd.R_away HO_435001.out (fun _ hk => hk.2.2.2.2.2.2.2)))) _).trans (((cell_far (p := ⟨gb479, _, none⟩) (by first | exact Kd.own_blk (Kd.R_away HO_435001.out (fun _ hk => hk.2.2.2.2.2.2.2)) | (rw [add_block]; exact Kd.own_blk (Kd.R_away HO_435001.out (fun _ hk => hk.2.2.2.2.2.2.2))) | (show (Addr.add _ _).block ≠ _; rw [add_block]; exact Kd.own_blk (Kd.R_away HO_435001.out (fun _ hk => hk.2.2.2.2.2.2.2))) | (dsimp only; exact Kd.own_blk (Kd.R_away HO_435001.out (fun _ hk => hk.2.2.2.2.2.2.2)))) _).trans (((cell_far (p := ⟨gb479, _, none⟩) (by first | exact Kd.own_blk (Kd.R_away HO_435001.out (fun _ hk => hk.2.2.2.2.2.2.2)) | (rw [add_block]; exact Kd.own_blk (Kd.R_away HO_435001.out (fun _ hk => hk.2.2.2.2.2.2.2))) | (show (Addr.add _ _).block ≠ _; rw [add_block]; exact Kd.own_blk (Kd.R_away HO_435001.out (fun _ hk => hk.2.2.2.2.2.2.2))) | (dsimp only; exact Kd.own_blk (Kd.R_away HO_435001.out (fun _ hk => hk.2.2.2.2.2.2.2)))) _).trans (((cell_far (p := ⟨gb479, _, none⟩) (by first | exact Kd.own_blk (Kd.R_away HO_435001.out (fun _ hk => hk.2.2.2.2.2.2.2)) | (rw [add_block]; exact Kd.own_blk (Kd.R_away HO_435001.out (fun _ hk => hk.2.2.2.2.2.2.2))) | (show (Addr.add _ _).block ≠ _; rw [add_block]; exact Kd.own_blk (Kd.R_away HO_435001.out (fun _ hk => hk.2.2.2.2.2.2.2))) | (dsimp only; exact Kd.own_blk (Kd.R_away HO_435001.out (fun _ hk => hk.2.2.2.2.2.2.2)))) _).trans (hHeld.2.2.2.2.1)))))))), ((cell_far (p := ⟨gb479, _, none⟩) (by first | exact Kd.own_blk (Kd.R_away HO_435001.out (fun _ hk => hk.2.2.2.2.2.2.2)) | (rw [add_block]; exact Kd.own_blk (Kd.R_away HO_435001.out (fun _ hk => hk.2.2.2.2.2.2.2))) | (show (Addr.add _ _).block ≠ _; rw [add_block]; exact Kd.own_blk (Kd.R_away HO_435001.out (fun _ hk => hk.2.2.2.2.2.2.2))) | (dsimp only; exact Kd.own_blk (Kd.R_away HO_435001.out (fun _ hk => hk.2.2.2.2.2.2.2)))) _).trans (((cell_far (p := ⟨gb479, _, none⟩) (by first | exact Kd.own_blk (Kd.R_away HO_435001.out (fun _ hk => hk.2.2.2.2.2.2.2)) | (rw [add_block]; exact Kd.own_blk (Kd.R_away HO_435001.out (fun _ hk => hk.2.2.2.2.2.2.2))) | (show (Addr.add _ _).block ≠ _; rw [add_block]; exact Kd.own_blk (Kd.R_away HO_435001.out (fun _ hk => hk.2.2.2.2.2.2.2))) | (dsimp only; exact Kd.own_blk (Kd.R_away HO_435001.out (fun _ hk => hk.2.2.2.2.2.2.2)))) _).trans (((cell_far (p := ⟨gb479, _, none⟩) (by first | exact Kd.own_blk (Kd.R_away HO_435001.out (fun _ hk => hk.2.2.2.2.2.2.2)) | (rw [add_block]; exact Kd.own_blk (Kd.R_away HO_435001.out (fun _ hk => hk.2.2.2.2.2.2.2))) | (show (Addr.add _ _).block ≠ _; rw [add_block]; exact Kd.own_blk (Kd.R_away HO_435001.out (fun _ hk => hk.2.2.2.2.2.2.2))) | (dsimp only; exact Kd.own_blk (Kd.R_away HO_435001.out (fun _ hk => hk.2.2.2.2.2.2.2)))) _).trans (((cell_far (p := ⟨gb479, _, none⟩) (by first | exact Kd.own_blk (Kd.R_away HO_435001.out (fun _ hk => hk.2.2.2.2.2.2.2)) | (rw [add_block]; exact Kd.own_blk (Kd.R_away HO_435001.out (fun _ hk => hk.2.2.2.2.2.2.2))) | (show (Addr.add _ _).block ≠ _; rw [add_block]; exact Kd.own_blk (Kd.R_away HO_435001.out (fun _ hk => hk.2.2.2.2.2.2.2))) | (dsimp only; exact Kd.own_blk (Kd.R_away HO_435001.out (fun _ hk => hk.2.2.2.2.2.2.2)))) _).trans (hHeld.2.2.2.2.2.1)))))))), ((cell_far (p := ⟨gb479, _, none⟩) (by first | exact Kd.own_blk (Kd.R_away HO_435001.out (fun _ hk => hk.2.2.2.2.2.2.2)) | (rw [add_block]; exact Kd.own_blk (Kd.R_away HO_435001.out (fun _ hk => hk.2.2.2.2.2.2.2))) | (show (Addr.add _ _).block ≠ _; rw [add_block]; exact Kd.own_blk (Kd.R_away HO_435001.out (fun _ hk => hk.2.2.2.2.2.2.2))) | (dsimp only; exact Kd.own_blk (Kd.R_away HO_435001.out (fun _ hk => hk.2.2.2.2.2.2.2)))) _).trans (((cell_far (p := ⟨gb479, _, none⟩) (by first | exact Kd.own_blk (Kd.R_away HO_435001.out (fun _ hk => hk.2.2.2.2.2.2.2)) | (rw [add_block]; exact Kd.own_blk (Kd.R_away HO_435001.out (fun _ hk => hk.2.2.2.2.2.2.2))) | (show (Addr.add _ _).block ≠ _; rw [add_block]; exact Kd.own_blk (Kd.R_away HO_435001.out (fun _ hk => hk.2.2.2.2.2.2.2))) | (dsimp only; exact Kd.own_blk (Kd.R_away HO_435001.out (fun _ hk => hk.2.2.2.2.2.2.2)))) _).trans (((cell_far (p := ⟨gb479, _, none⟩) (by first | exact Kd.own_blk (Kd.R_away HO_435001.out (fun _ hk => hk.2.2.2.2.2.2.2)) | (rw [add_block]; exact Kd.own_blk (Kd.R_away HO_435001.out (fun _ hk => hk.2.2.2.2.2.2.2))) | (show (Addr.add _ _).block ≠ _; rw [add_block]; exact Kd.own_blk (Kd.R_away HO_435001.out (fun _ hk => hk.2.2.2.2.2.2.2))) | (dsimp only; exact Kd.own_blk (Kd.R_away HO_435001.out (fun _ hk => hk.2.2.2.2.2.2.2)))) _).trans (((cell_far (p := ⟨gb479, _, none⟩) (by first | exact Kd.own_blk (Kd.R_away HO_435001.out (fun _ hk => hk.2.2.2.2.2.2.2)) | (rw [add_block]; exact Kd.own_blk (Kd.R_away HO_435001.out (fun _ hk => hk.2.2.2.2.2.2.2))) | (show (Addr.add _ _).block ≠ _; rw [add_block]; exact Kd.own_blk (Kd.R_away HO_435001.out (fun _ hk => hk.2.2.2.2.2.2.2))) | (dsimp only; exact Kd.own_blk (Kd.R_away HO_435001.out (fun _ hk => hk.2.2.2.2.2.2.2)))) _).trans (hHeld.2.2.2.2.2.2.1)))))))), ((cell_far (p := ⟨gb479, _, none⟩) (by first | exact Kd.own_blk (Kd.R_away HO_435001.out (fun _ hk => hk.2.2.2.2.2.2.2)) | (rw [add_block]; exact Kd.own_blk (Kd.R_away HO_435001.out (fun _ hk => hk.2.2.2.2.2.2.2))) | (show (Addr.add _ _).block ≠ _; rw [add_block]; exact Kd.own_blk (Kd.R_away HO_435001.out (fun _ hk => hk.2.2.2.2.2.2.2))) | (dsimp only; exact Kd.own_blk (Kd.R_away HO_435001.out (fun _ hk => hk.2.2.2.2.2.2.2)))) _).trans (((cell_far (p := ⟨gb479, _, none⟩) (by first | exact Kd.own_blk (Kd.R_away HO_435001.out (fun _ hk => hk.2.2.2.2.2.2.2)) | (rw [add_block]; exact Kd.own_blk (Kd.R_away HO_435001.out (fun _ hk => hk.2.2.2.2.2.2.2))) | (show (Addr.add _ _).block ≠ _; rw [add_block]; exact Kd.own_blk (Kd.R_away HO_435001.out (fun _ hk => hk.2.2.2.2.2.2.2))) | (dsimp only; exact Kd.own_blk (Kd.R_away HO_435001.out (fun _ hk => hk.2.2.2.2.2.2.2)))) _).trans (((cell_far (p := ⟨gb479, _, none⟩) (by first | exact Kd.own_blk (Kd.R_away HO_435001.out (fun _ hk => hk.2.2.2.2.2.2.2)) | (rw [add_block]; exact Kd.own_blk (Kd.R_away HO_435001.out (fun _ hk => hk.2.2.2.2.2.2.2))) | (show (Addr.add _ _).block ≠ _; rw [add_block]; exact Kd.own_blk (Kd.R_away HO_435001.out (fun _ hk => hk.2.2.2.2.2.2.2))) | (dsimp only; exact Kd.own_blk (Kd.R_away HO_435001.out (fun _ hk => hk.2.2.2.2.2.2.2)))) _).trans (((cell_far (p := ⟨gb479, _, none⟩) (by first | exact Kd.own_blk (Kd.R_away HO_435001.out (fun _ hk => hk.2.2.2.2.2.2.2)) | (rw [add_block]; exact Kd.own_blk (Kd.R_away HO_435001.out (fun _ hk => hk.2.2.2.2.2.2.2))) | (show (Addr.add _ _).block ≠ _; rw [add_block]; exact Kd.own_blk (Kd.R_away HO_435001.out (fun _ hk => hk.2.2.2.2.2.2.2))) | (dsimp only; exact Kd.own_blk (Kd.R_away HO_435001.out (fun _ hk => hk.2.2.2.2.2.2.2)))) _).trans (hHeld.2.2.2.2.2.2.2))))))))⟩ (fun hHeld => ?_);clear hK K;refine pure_ (i := 13) (N := some 22) (v := ?_) (a' := ?_) #[tt,tt,tt,tt,tt,tt,tt,tt,tt,tt,tt,tt,tt,tt] rfl rfl (any_of HT_.out (by kernel_rfl)) (fun _ _ _ h => h) (Or.inl ⟨by rfl, ?_⟩) ?_ ?_;rotate_left
         ·intro w';go_simp;with_reducible rfl
         rotate_left;·simp only [Act.put, sB, s0, s1, i64_w, i32_w];rfl
         refine done_ (done_of HT_.out (by kernel_rfl)) ?_
         go_upto_region 17 with (fail)
         go_cut [132] (fun v132 wc => ∃ (kq : Nat) (x132_104 : Bool), v132 = .bool x132_104 ∧ Aside0 (laws_FnCatTake.j2 kq t453 t459 t465 t471 x20_2 x132_104 t422 t423 t429 t430 t443 t444 t445 t446 t467 t468 t469 t470 = some r) ∧ Aside0 (kq ≤ k2) ∧ Aside0 (Kd.R k38 38 wc w.heap.size (fun k_ => some k_ ≠ ((.slice (some ad473) t430.length co15) : Value).ownBlock ∧ some k_ ≠ ((.slice Ao22 t436.length co22) : Value).ownBlock ∧ some k_ ≠ ((.slice Ao91 t462.length co91) : Value).ownBlock ∧ k_ ≠ gb448 ∧ k_ ≠ gb454 ∧ k_ ≠ gb460 ∧ k_ ≠ gb472 ∧ k_ ≠ gb479) (.slice Ao10 t423.length co10) t423) ∧ Aside0 (Kd.R k38 38 wc w.heap.size (fun k_ => some k_ ≠ ((.slice Ao10 t423.length co10) : Value).ownBlock ∧ some k_ ≠ ((.slice Ao22 t436.length co22) : Value).ownBlock ∧ some k_ ≠ ((.slice Ao91 t462.length co91) : Value).ownBlock ∧ k_ ≠ gb448 ∧ k_ ≠ gb454 ∧ k_ ≠ gb460 ∧ k_ ≠ gb472 ∧ k_ ≠ gb479) (.slice (some ad473) t430.length co15) t430) ∧ Aside0 (Kd.R k38 38 wc w.heap.size (fun k_ => some k_ ≠ ((.slice Ao10 t423.length co10) : Value).ownBlock ∧ some k_ ≠ ((.slice (some ad473) t430.length co15) : Value).ownBlock ∧ some k_ ≠ ((.slice Ao91 t462.length co91) : Value).ownBlock ∧ k_ ≠ gb448 ∧ k_ ≠ gb454 ∧ k_ ≠ gb460 ∧ k_ ≠ gb472 ∧ k_ ≠ gb479) (.slice Ao22 t436.length co22) t436) ∧ Aside0 (Kd.R k38 38 wc w.heap.size (fun k_ => some k_ ≠ ((.slice Ao10 t423.length co10) : Value).ownBlock ∧ some k_ ≠ ((.slice (some ad473) t430.length co15) : Value).ownBlock ∧ some k_ ≠ ((.slice Ao22 t436.length co22) : Value).ownBlock ∧ k_ ≠ gb448 ∧ k_ ≠ gb454 ∧ k_ ≠ gb460 ∧ k_ ≠ gb472 ∧ k_ ≠ gb479) (.slice Ao91 t462.length co91) t462) ∧ Aside0 (wc.heap[gb428]? = some (.cells #[.int .i64 t422, (.slice Ao10 t423.length co10)] 25 (0, 0))) ∧ Aside0 (wc.heap[gb434]? = some (.cells #[.int .i64 t429, (.slice (some ad473) t430.length co15)] 25 (0, 0))) ∧ Aside0 (wc.heap[gb440]? = some (.cells #[.int .i64 t435, (.slice Ao22 t436.length co22)] 25 (0, 0))) ∧ Aside0 (wc.heap[gb448]? = some (.cells #[.int .i64 t443, .string t444, .int .i64 t445, .string t446] 38 (0, 0))) ∧ Aside0 (wc.heap[gb454]? = some (.cells #[.int .i64 t449, .string t450, .int .i64 t451, .string t452] 38 (0, 0))) ∧ Aside0 (wc.heap[gb460]? = some (.cells #[.int .i64 t455, .string t456, .int .i64 t457, .string t458] 38 (0, 0))) ∧ Aside0 (wc.heap[gb466]? = some (.cells #[.int .i64 t461, (.slice Ao91 t462.length co91)] 25 (0, 0))) ∧ Aside0 (wc.heap[gb472]? = some (.cells #[.int .i64 t467, .string t468, .int .i64 t469, .string t470] 38 (0, 0))) ∧ Aside0 (wc.heap[gb479]? = some (.cells #[.int .i64 t474, .string t475, .int .i64 t476, .string t477] 38 (0, 0))) ∧ Aside0 (Below w.heap.size w wc))
         case first =>
          have H := HC105.out;clear HC105
          by_cases c122 : t478 = true
          ·subst c122;rw [if_pos rfl] at H;have H' := Aside0.mk H;clear H
           try go_wp2
           obtain ⟨w123, hw_⟩ : ∃ W_, ((((w117.setCell ⟨gb479, 0, none⟩ (.int .i64 t474)).setCell ⟨gb479, 1, none⟩ (.string t475)).setCell ⟨gb479, 2, none⟩ (.int .i64 t476)).setCell ⟨gb479, 3, none⟩ (.string t477)) = W_ := ⟨_, rfl⟩;have hi_ : Lax gb479 w117 w123 := (by rw [← hw_]; infer_instance);have n0_ : Aside0 (Kd.R k38 38 w123 w.heap.size (fun k_ => some k_ ≠ (.slice (some ad473) t430.length co15 : Value).ownBlock ∧ some k_ ≠ (.slice Ao22 t436.length co22 : Value).ownBlock ∧ some k_ ≠ (.slice Ao91 t462.length co91 : Value).ownBlock ∧ k_ ≠ gb448 ∧ k_ ≠ gb454 ∧ k_ ≠ gb460 ∧ k_ ≠ gb472 ∧ k_ ≠ gb479) (.slice Ao10 t423.length co10) t423) := ⟨by exact Kd.R_mono (Kd.R_lax (g := gb479) (Kd.R_mono HO_429001.out (fun k_ hk => (⟨hk, hk.2.2.2.2.2.2.2⟩ : _ ∧ k_ ≠ gb479))) (fun _ hk => hk.2)) (fun _ hk => ⟨hk.1.1, ⟨hk.1.2.1, ⟨hk.1.2.2.1, ⟨hk.1.2.2.2.1, ⟨hk.1.2.2.2.2.1, ⟨hk.1.2.2.2.2.2.1, ⟨hk.1.2.2.2.2.2.2.1, hk.1.2.2.2.2.2.2.2⟩⟩⟩⟩⟩⟩⟩)⟩;have n1_ : Aside0 (Kd.R k38 38 w123 w.heap.size (fun k_ => some k_ ≠ (.slice Ao10 t423.length co10 : Value).ownBlock ∧ some k_ ≠ (.slice Ao22 t436.length co22 : Value).ownBlock ∧ some k_ ≠ (.slice Ao91 t462.length co91 : Value).ownBlock ∧ k_ ≠ gb448 ∧ k_ ≠ gb454 ∧ k_ ≠ gb460 ∧ k_ ≠ gb472 ∧ k_ ≠ gb479) (.slice (some ad473) t430.length co15) t430) := ⟨by exact Kd.R_mono (Kd.R_lax (g := gb479) (Kd.R_mono HO_435001.out (fun k_ hk => (⟨hk, hk.2.2.2.2.2.2.2⟩ : _ ∧ k_ ≠ gb479))) (fun _ hk => hk.2)) (fun _ hk => ⟨hk.1.1, ⟨hk.1.2.1, ⟨hk.1.2.2.1, ⟨hk.1.2.2.2.1, ⟨hk.1.2.2.2.2.1, ⟨hk.1.2.2.2.2.2.1, ⟨hk.1.2.2.2.2.2.2.1, hk.1.2.2.2.2.2.2.2⟩⟩⟩⟩⟩⟩⟩)⟩;have n2_ : Aside0 (Kd.R k38 38 w123 w.heap.size (fun k_ => some k_ ≠ (.slice Ao10 t423.length co10 : Value).ownBlock ∧ some k_ ≠ (.slice (some ad473) t430.length co15 : Value).ownBlock ∧ some k_ ≠ (.slice Ao91 t462.length co91 : Value).ownBlock ∧ k_ ≠ gb448 ∧ k_ ≠ gb454 ∧ k_ ≠ gb460 ∧ k_ ≠ gb472 ∧ k_ ≠ gb479) (.slice Ao22 t436.length co22) t436) := ⟨by exact Kd.R_mono (Kd.R_lax (g := gb479) (Kd.R_mono HO_441001.out (fun k_ hk => (⟨hk, hk.2.2.2.2.2.2.2⟩ : _ ∧ k_ ≠ gb479))) (fun _ hk => hk.2)) (fun _ hk => ⟨hk.1.1, ⟨hk.1.2.1, ⟨hk.1.2.2.1, ⟨hk.1.2.2.2.1, ⟨hk.1.2.2.2.2.1, ⟨hk.1.2.2.2.2.2.1, ⟨hk.1.2.2.2.2.2.2.1, hk.1.2.2.2.2.2.2.2⟩⟩⟩⟩⟩⟩⟩)⟩;have n3_ : Aside0 (Kd.R k38 38 w123 w.heap.size (fun k_ => some k_ ≠ (.slice Ao10 t423.length co10 : Value).ownBlock ∧ some k_ ≠ (.slice (some ad473) t430.length co15 : Value).ownBlock ∧ some k_ ≠ (.slice Ao22 t436.length co22 : Value).ownBlock ∧ k_ ≠ gb448 ∧ k_ ≠ gb454 ∧ k_ ≠ gb460 ∧ k_ ≠ gb472 ∧ k_ ≠ gb479) (.slice Ao91 t462.length co91) t462) := ⟨by exact Kd.R_mono (Kd.R_lax (g := gb479) (Kd.R_mono HO_467001.out (fun k_ hk => (⟨hk, hk.2.2.2.2.2.2.2⟩ : _ ∧ k_ ≠ gb479))) (fun _ hk => hk.2)) (fun _ hk => ⟨hk.1.1, ⟨hk.1.2.1, ⟨hk.1.2.2.1, ⟨hk.1.2.2.2.1, ⟨hk.1.2.2.2.2.1, ⟨hk.1.2.2.2.2.2.1, ⟨hk.1.2.2.2.2.2.2.1, hk.1.2.2.2.2.2.2.2⟩⟩⟩⟩⟩⟩⟩)⟩;have n4_ : Aside0 (w123.heap[gb428]? = some (.cells #[.int .i64 t422, .slice Ao10 t423.length co10] 25 (0, 0))) := ⟨bx (a := gb479) BK428.out NB428_479.out⟩;have n5_ : Aside0 (w123.heap[gb434]? = some (.cells #[.int .i64 t429, .slice (some ad473) t430.length co15] 25 (0, 0))) := ⟨bx (a := gb479) BK434.out NB434_479.out⟩;have n6_ : Aside0 (w123.heap[gb440]? = some (.cells #[.int .i64 t435, .slice Ao22 t436.length co22] 25 (0, 0))) := ⟨bx (a := gb479) BK440.out NB440_479.out⟩;have n7_ : Aside0 (w123.heap[gb448]? = some (.cells #[.int .i64 t443, .string t444, .int .i64 t445, .string t446] 38 (0, 0))) := ⟨bx (a := gb479) BK448.out NB448_479.out⟩;have n8_ : Aside0 (w123.heap[gb454]? = some (.cells #[.int .i64 t449, .string t450, .int .i64 t451, .string t452] 38 (0, 0))) := ⟨bx (a := gb479) BK454.out NB454_479.out⟩;have n9_ : Aside0 (w123.heap[gb460]? = some (.cells #[.int .i64 t455, .string t456, .int .i64 t457, .string t458] 38 (0, 0))) := ⟨bx (a := gb479) BK460.out NB460_479.out⟩;have n10_ : Aside0 (w123.heap[gb466]? = some (.cells #[.int .i64 t461, .slice Ao91 t462.length co91] 25 (0, 0))) := ⟨bx (a := gb479) BK466.out NB466_479.out⟩;have n11_ : Aside0 (w123.heap[gb472]? = some (.cells #[.int .i64 t467, .string t468, .int .i64 t469, .string t470] 38 (0, 0))) := ⟨bx (a := gb479) BK472.out NB472_479.out⟩;have n12_ : Aside0 (w123.heap[gb479]? = some (.cells #[.int .i64 t474, .string t475, .int .i64 t476, .string t477] 38 (0, 0))) := ⟨by rw [← hw_]; exact (bp BK479.out (by rfl))⟩;have n13_ : Aside0 (Below w.heap.size w w123) := ⟨by exact bbx (a := gb479) HB.out GE479.out⟩
           (try clear HO_429001)
           (try clear HO_435001)
           (try clear HO_441001)
           (try clear HO_467001)
           (try clear BK428)
           (try clear BK434)
           (try clear BK440)
           (try clear BK448)
           (try clear BK454)
           (try clear BK460)
           (try clear BK466)
           (try clear BK472)
           (try clear BK479)
           (try clear HB)
           clear hi_
           (try rw [hw_])
           clear hw_;have HO_429001 := n0_;have HO_435001 := n1_;have HO_441001 := n2_;have HO_467001 := n3_;have BK428 := n4_;have BK434 := n5_;have BK440 := n6_;have BK448 := n7_;have BK454 := n8_;have BK460 := n9_;have BK466 := n10_;have BK472 := n11_;have BK479 := n12_;have HB := n13_;clear n0_ n1_ n2_ n3_ n4_ n5_ n6_ n7_ n8_ n9_ n10_ n11_ n12_ n13_;replace HO_429001 := Aside0.mk (Kd.R_drew HO_429001.out);replace HO_435001 := Aside0.mk (Kd.R_drew HO_435001.out);replace HO_441001 := Aside0.mk (Kd.R_drew HO_441001.out);replace HO_467001 := Aside0.mk (Kd.R_drew HO_467001.out);replace BK428 := Aside0.mk (blk_drew BK428.out);replace BK434 := Aside0.mk (blk_drew BK434.out);replace BK440 := Aside0.mk (blk_drew BK440.out);replace BK448 := Aside0.mk (blk_drew BK448.out);replace BK454 := Aside0.mk (blk_drew BK454.out);replace BK460 := Aside0.mk (blk_drew BK460.out);replace BK466 := Aside0.mk (blk_drew BK466.out);replace BK472 := Aside0.mk (blk_drew BK472.out);replace BK479 := Aside0.mk (blk_drew BK479.out);replace HB := Aside0.mk (below_drew1 HB.out);have p480 : 0 ≤ (x20_2 : Int) := of_decide_eq_true (by first | (with_reducible assumption) | assumption);have q480 : x20_2 < (t430.length : Int) := of_decide_eq_true (by first | (with_reducible assumption) | assumption);obtain ⟨ad480, e480, hx480_0, hx480_1, hx480_2, hx480_3⟩ := at_T38 (Kd.R_reads' HO_435001.out).2.2 x20_2 p480 q480;obtain rfl : ad473 = ad480 := (by injection e480);replace p480 := eq_true p480;replace q480 := eq_true q480;refine start_ (n := 11) (S := fun w' => w'.cell? ⟨gb479, 0, none⟩ = some (.int .i64 t474) ∧ w'.cell? ⟨gb479, 1, none⟩ = some (.string t475) ∧ w'.cell? ⟨gb479, 2, none⟩ = some (.int .i64 t476) ∧ w'.cell? ⟨gb479, 3, none⟩ = some (.string t477) ∧ w'.cell? ⟨gb434, 0, none⟩ = some (.int .i64 t429) ∧ w'.cell? ⟨gb434, 1, none⟩ = some (.slice (some ad473) t430.length co15) ∧ w'.cell? (ad473.add ((x20_2).toNat * 4)) = some (.int .i64 ((rd_T38 t430 x20_2).f0)) ∧ w'.cell? ⟨(ad473.add ((x20_2).toNat * 4)).block, (ad473.add ((x20_2).toNat * 4)).off + 1, none⟩ = some (.string ((rd_T38 t430 x20_2).f1)) ∧ w'.cell? ⟨(ad473.add ((x20_2).toNat * 4)).block, (ad473.add ((x20_2).toNat * 4)).off + 2, none⟩ = some (.int .i64 ((rd_T38 t430 x20_2).f2)) ∧ w'.cell? ⟨(ad473.add ((x20_2).toNat * 4)).block, (ad473.add ((x20_2).toNat * 4)).off + 3, none⟩ = some (.string ((rd_T38 t430 x20_2).f3))) (ds := []) #[ff,ff,ff,ff,ff,ff,ff,ff,ff,ff,ff] (by kernel_rfl) rfl rfl ⟨(blk_cell BK479.out 0).trans rfl, (blk_cell BK479.out 1).trans rfl, (blk_cell BK479.out 2).trans rfl, (blk_cell BK479.out 3).trans rfl, (blk_cell BK434.out 0).trans rfl, (blk_cell BK434.out 1).trans rfl, hx480_0, hx480_1, hx480_2, hx480_3⟩ (fun hHeld => ?_); refine with_tabW laws_FnCatTake.tab17 laws_FnCatTake.bits17 (fun HT_ HW_ => ?_)
           generalize w123.drew = w124 at HO_429001 HO_435001 HO_441001 HO_467001 BK428 BK434 BK440 BK448 BK454 BK460 BK466 BK472 BK479 HB hx480_0 hx480_1 hx480_2 hx480_3 hHeld ⊢;refine pure_ (i := 0) (N := some 122) (v := ?_) (a' := ?_) #[tt,ff,ff,ff,ff,ff,ff,ff,ff,ff,ff] rfl rfl (any_of HT_.out (by kernel_rfl)) (fun _ _ _ h => h) (Or.inl ⟨by rfl, ?_⟩) ?_ ?_;rotate_left
           ·intro w';go_simp;with_reducible rfl
           rotate_left;·simp only [Act.put, sB, s0, s1, i64_w, i32_w];rfl
           refine pure_ (i := 1) (N := some 123) (v := ?_) (a' := ?_) #[tt,tt,ff,ff,ff,ff,ff,ff,ff,ff,ff] rfl rfl (any_of HT_.out (by kernel_rfl)) (fun _ _ _ h => h) (Or.inl ⟨by rfl, ?_⟩) ?_ ?_;rotate_left
           ·intro w';go_simp;with_reducible rfl
           rotate_left;·simp only [Act.put, sB, s0, s1, i64_w, i32_w];rfl
           refine pure_ (i := 2) (N := some 124) (v := ?_) (a' := ?_) #[tt,tt,tt,ff,ff,ff,ff,ff,ff,ff,ff] rfl rfl (any_of HT_.out (by kernel_rfl)) (fun _ _ _ h => h) (Or.inl ⟨by rfl, ?_⟩) ?_ ?_;rotate_left
           ·intro w';go_simp;with_reducible rfl
           rotate_left;·simp only [Act.put, sB, s0, s1, i64_w, i32_w];rfl
           refine pure_ (i := 4) (N := some 126) (v := ?_) (a' := ?_) #[tt,tt,tt,ff,tt,ff,ff,ff,ff,ff,ff] rfl rfl (any_of HT_.out (by kernel_rfl)) (fun _ _ _ h => h) (Or.inl ⟨by rfl, ?_⟩) ?_ ?_;rotate_left
           ·intro w';go_simp;with_reducible rfl
           rotate_left;·simp only [Act.put, sB, s0, s1, i64_w, i32_w];rfl
           refine pure_ (i := 6) (N := some 128) (v := ?_) (a' := ?_) #[tt,tt,tt,ff,tt,ff,tt,ff,ff,ff,ff] rfl rfl (any_of HT_.out (by kernel_rfl)) (fun _ _ _ h => h) (Or.inl ⟨by rfl, ?_⟩) ?_ ?_;rotate_left
           ·intro w';go_simp;with_reducible rfl
           rotate_left;·simp only [Act.put, sB, s0, s1, i64_w, i32_w];rfl
           refine take_ (i := 3) (N := some 125) (v := ?_) (a' := ?_) #[tt,tt,tt,tt,tt,ff,tt,ff,ff,ff,ff] rfl rfl (take_ofW HT_.out HW_.out (by kernel_rfl)) (fun _ _ _ h => h) (Or.inl ⟨by rfl, ?_⟩) hHeld ?_ ?_;rotate_left
           ·rintro w' ⟨s0, s1, s2, s3, s4, s5, s6, s7, s8, s9⟩;go_simp;with_reducible rfl
           rotate_left;·simp only [Act.put, sB, s0, s1, i64_w, i32_w];rfl
           refine take_ (i := 5) (N := some 127) (v := ?_) (a' := ?_) #[tt,tt,tt,tt,tt,tt,tt,ff,ff,ff,ff] rfl rfl (take_ofW HT_.out HW_.out (by kernel_rfl)) (fun _ _ _ h => h) (Or.inl ⟨by rfl, ?_⟩) hHeld ?_ ?_;rotate_left
           ·rintro w' ⟨s0, s1, s2, s3, s4, s5, s6, s7, s8, s9⟩;go_simp;with_reducible rfl
           rotate_left;·simp only [Act.put, sB, s0, s1, i64_w, i32_w];rfl
           refine pure_ (i := 7) (N := some 129) (v := ?_) (a' := ?_) #[tt,tt,tt,tt,tt,tt,tt,tt,ff,ff,ff] rfl rfl (any_of HT_.out (by kernel_rfl)) (fun _ _ _ h => h) (Or.inl ⟨by rfl, ?_⟩) ?_ ?_;rotate_left
           ·intro w';go_simp;with_reducible rfl
           rotate_left;·simp only [Act.put, sB, s0, s1, i64_w, i32_w];rfl
           refine take_ (i := 8) (N := some 130) (v := ?_) (a' := ?_) #[tt,tt,tt,tt,tt,tt,tt,tt,tt,ff,ff] rfl rfl (take_ofW HT_.out HW_.out (by kernel_rfl)) (fun _ _ _ h => h) (Or.inl ⟨by rfl, ?_⟩) hHeld ?_ ?_;rotate_left
           ·rintro w' ⟨s0, s1, s2, s3, s4, s5, s6, s7, s8, s9⟩;go_simp;with_reducible rfl
           rotate_left;·simp only [Act.put, sB, s0, s1, i64_w, i32_w];rfl
           refine pure_ (i := 9) (N := some 131) (v := ?_) (a' := ?_) #[tt,tt,tt,tt,tt,tt,tt,tt,tt,tt,ff] rfl rfl (any_of HT_.out (by kernel_rfl)) (fun _ _ _ h => h) (Or.inl ⟨by rfl, ?_⟩) ?_ ?_;rotate_left
           ·intro w';go_simp;with_reducible rfl
           rotate_left;·simp only [Act.put, sB, s0, s1, i64_w, i32_w];rfl
           refine pure_ (i := 10) (N := some 132) (v := ?_) (a' := ?_) #[tt,tt,tt,tt,tt,tt,tt,tt,tt,tt,tt] rfl rfl (any_of HT_.out (by kernel_rfl)) (fun _ _ _ h => h) (Or.inl ⟨by rfl, ?_⟩) ?_ ?_;rotate_left
           ·intro w';go_simp;with_reducible rfl
           rotate_left;·simp only [Act.put, sB, s0, s1, i64_w, i32_w];rfl
           refine done_ (done_of HT_.out (by kernel_rfl)) ?_
           try go_wp2
           go_meet
           case rel => exact ⟨_, ((!(t474 == ((rd_T38 t430 x20_2).f0)) || (!(t475.toList == (((rd_T38 t430 x20_2).f1).toList)) || (!(t476 == ((rd_T38 t430 x20_2).f2)) || (!(t477.toList == (((rd_T38 t430 x20_2).f3).toList))))))), (by first | rfl | (simp; done) | (simp [*]; done)), H', ⟨by have := HJ5.out; have := HK2.out; first | omega | exact Nat.le_refl _⟩, ⟨by exact Kd.R_lat (HO_429001.out)⟩, ⟨by exact Kd.R_lat (HO_435001.out)⟩, ⟨by exact Kd.R_lat (HO_441001.out)⟩, ⟨by exact Kd.R_lat (HO_467001.out)⟩, ⟨bl BK428.out⟩, ⟨bl BK434.out⟩, ⟨bl BK440.out⟩, ⟨bl BK448.out⟩, ⟨bl BK454.out⟩, ⟨bl BK460.out⟩, ⟨bl BK466.out⟩, ⟨bl BK472.out⟩, ⟨bl BK479.out⟩, ⟨by exact bb HB.out⟩⟩
          replace c122 := Bool.eq_false_iff.mpr c122;subst c122;rw [if_neg (show ¬ (false = true) by decide)] at H;have H' := Aside0.mk H;clear H
          try go_wp2
          obtain ⟨w125, hw_⟩ : ∃ W_, ((((w117.setCell ⟨gb479, 0, none⟩ (.int .i64 t474)).setCell ⟨gb479, 1, none⟩ (.string t475)).setCell ⟨gb479, 2, none⟩ (.int .i64 t476)).setCell ⟨gb479, 3, none⟩ (.string t477)) = W_ := ⟨_, rfl⟩;have hi_ : Lax gb479 w117 w125 := (by rw [← hw_]; infer_instance);have n0_ : Aside0 (Kd.R k38 38 w125 w.heap.size (fun k_ => some k_ ≠ (.slice (some ad473) t430.length co15 : Value).ownBlock ∧ some k_ ≠ (.slice Ao22 t436.length co22 : Value).ownBlock ∧ some k_ ≠ (.slice Ao91 t462.length co91 : Value).ownBlock ∧ k_ ≠ gb448 ∧ k_ ≠ gb454 ∧ k_ ≠ gb460 ∧ k_ ≠ gb472 ∧ k_ ≠ gb479) (.slice Ao10 t423.length co10) t423) := ⟨by exact Kd.R_mono (Kd.R_lax (g := gb479) (Kd.R_mono HO_429001.out (fun k_ hk => (⟨hk, hk.2.2.2.2.2.2.2⟩ : _ ∧ k_ ≠ gb479))) (fun _ hk => hk.2)) (fun _ hk => ⟨hk.1.1, ⟨hk.1.2.1, ⟨hk.1.2.2.1, ⟨hk.1.2.2.2.1, ⟨hk.1.2.2.2.2.1, ⟨hk.1.2.2.2.2.2.1, ⟨hk.1.2.2.2.2.2.2.1, hk.1.2.2.2.2.2.2.2⟩⟩⟩⟩⟩⟩⟩)⟩;have n1_ : Aside0 (Kd.R k38 38 w125 w.heap.size (fun k_ => some k_ ≠ (.slice Ao10 t423.length co10 : Value).ownBlock ∧ some k_ ≠ (.slice Ao22 t436.length co22 : Value).ownBlock ∧ some k_ ≠ (.slice Ao91 t462.length co91 : Value).ownBlock ∧ k_ ≠ gb448 ∧ k_ ≠ gb454 ∧ k_ ≠ gb460 ∧ k_ ≠ gb472 ∧ k_ ≠ gb479) (.slice (some ad473) t430.length co15) t430) := ⟨by exact Kd.R_mono (Kd.R_lax (g := gb479) (Kd.R_mono HO_435001.out (fun k_ hk => (⟨hk, hk.2.2.2.2.2.2.2⟩ : _ ∧ k_ ≠ gb479))) (fun _ hk => hk.2)) (fun _ hk => ⟨hk.1.1, ⟨hk.1.2.1, ⟨hk.1.2.2.1, ⟨hk.1.2.2.2.1, ⟨hk.1.2.2.2.2.1, ⟨hk.1.2.2.2.2.2.1, ⟨hk.1.2.2.2.2.2.2.1, hk.1.2.2.2.2.2.2.2⟩⟩⟩⟩⟩⟩⟩)⟩;have n2_ : Aside0 (Kd.R k38 38 w125 w.heap.size (fun k_ => some k_ ≠ (.slice Ao10 t423.length co10 : Value).ownBlock ∧ some k_ ≠ (.slice (some ad473) t430.length co15 : Value).ownBlock ∧ some k_ ≠ (.slice Ao91 t462.length co91 : Value).ownBlock ∧ k_ ≠ gb448 ∧ k_ ≠ gb454 ∧ k_ ≠ gb460 ∧ k_ ≠ gb472 ∧ k_ ≠ gb479) (.slice Ao22 t436.length co22) t436) := ⟨by exact Kd.R_mono (Kd.R_lax (g := gb479) (Kd.R_mono HO_441001.out (fun k_ hk => (⟨hk, hk.2.2.2.2.2.2.2⟩ : _ ∧ k_ ≠ gb479))) (fun _ hk => hk.2)) (fun _ hk => ⟨hk.1.1, ⟨hk.1.2.1, ⟨hk.1.2.2.1, ⟨hk.1.2.2.2.1, ⟨hk.1.2.2.2.2.1, ⟨hk.1.2.2.2.2.2.1, ⟨hk.1.2.2.2.2.2.2.1, hk.1.2.2.2.2.2.2.2⟩⟩⟩⟩⟩⟩⟩)⟩;have n3_ : Aside0 (Kd.R k38 38 w125 w.heap.size (fun k_ => some k_ ≠ (.slice Ao10 t423.length co10 : Value).ownBlock ∧ some k_ ≠ (.slice (some ad473) t430.length co15 : Value).ownBlock ∧ some k_ ≠ (.slice Ao22 t436.length co22 : Value).ownBlock ∧ k_ ≠ gb448 ∧ k_ ≠ gb454 ∧ k_ ≠ gb460 ∧ k_ ≠ gb472 ∧ k_ ≠ gb479) (.slice Ao91 t462.length co91) t462) := ⟨by exact Kd.R_mono (Kd.R_lax (g := gb479) (Kd.R_mono HO_467001.out (fun k_ hk => (⟨hk, hk.2.2.2.2.2.2.2⟩ : _ ∧ k_ ≠ gb479))) (fun _ hk => hk.2)) (fun _ hk => ⟨hk.1.1, ⟨hk.1.2.1, ⟨hk.1.2.2.1, ⟨hk.1.2.2.2.1, ⟨hk.1.2.2.2.2.1, ⟨hk.1.2.2.2.2.2.1, ⟨hk.1.2.2.2.2.2.2.1, hk.1.2.2.2.2.2.2.2⟩⟩⟩⟩⟩⟩⟩)⟩;have n4_ : Aside0 (w125.heap[gb428]? = some (.cells #[.int .i64 t422, .slice Ao10 t423.length co10] 25 (0, 0))) := ⟨bx (a := gb479) BK428.out NB428_479.out⟩;have n5_ : Aside0 (w125.heap[gb434]? = some (.cells #[.int .i64 t429, .slice (some ad473) t430.length co15] 25 (0, 0))) := ⟨bx (a := gb479) BK434.out NB434_479.out⟩;have n6_ : Aside0 (w125.heap[gb440]? = some (.cells #[.int .i64 t435, .slice Ao22 t436.length co22] 25 (0, 0))) := ⟨bx (a := gb479) BK440.out NB440_479.out⟩;have n7_ : Aside0 (w125.heap[gb448]? = some (.cells #[.int .i64 t443, .string t444, .int .i64 t445, .string t446] 38 (0, 0))) := ⟨bx (a := gb479) BK448.out NB448_479.out⟩;have n8_ : Aside0 (w125.heap[gb454]? = some (.cells #[.int .i64 t449, .string t450, .int .i64 t451, .string t452] 38 (0, 0))) := ⟨bx (a := gb479) BK454.out NB454_479.out⟩;have n9_ : Aside0 (w125.heap[gb460]? = some (.cells #[.int .i64 t455, .string t456, .int .i64 t457, .string t458] 38 (0, 0))) := ⟨bx (a := gb479) BK460.out NB460_479.out⟩;have n10_ : Aside0 (w125.heap[gb466]? = some (.cells #[.int .i64 t461, .slice Ao91 t462.length co91] 25 (0, 0))) := ⟨bx (a := gb479) BK466.out NB466_479.out⟩;have n11_ : Aside0 (w125.heap[gb472]? = some (.cells #[.int .i64 t467, .string t468, .int .i64 t469, .string t470] 38 (0, 0))) := ⟨bx (a := gb479) BK472.out NB472_479.out⟩;have n12_ : Aside0 (w125.heap[gb479]? = some (.cells #[.int .i64 t474, .string t475, .int .i64 t476, .string t477] 38 (0, 0))) := ⟨by rw [← hw_]; exact (bp BK479.out (by rfl))⟩;have n13_ : Aside0 (Below w.heap.size w w125) := ⟨by exact bbx (a := gb479) HB.out GE479.out⟩
          (try clear HO_429001)
          (try clear HO_435001)
          (try clear HO_441001)
          (try clear HO_467001)
          (try clear BK428)
          (try clear BK434)
          (try clear BK440)
          (try clear BK448)
          (try clear BK454)
          (try clear BK460)
          (try clear BK466)
          (try clear BK472)
          (try clear BK479)
          (try clear HB)
          clear hi_
          (try rw [hw_])
          clear hw_;have HO_429001 := n0_;have HO_435001 := n1_;have HO_441001 := n2_;have HO_467001 := n3_;have BK428 := n4_;have BK434 := n5_;have BK440 := n6_;have BK448 := n7_;have BK454 := n8_;have BK460 := n9_;have BK466 := n10_;have BK472 := n11_;have BK479 := n12_;have HB := n13_;clear n0_ n1_ n2_ n3_ n4_ n5_ n6_ n7_ n8_ n9_ n10_ n11_ n12_ n13_;replace HO_429001 := Aside0.mk (Kd.R_drew HO_429001.out);replace HO_435001 := Aside0.mk (Kd.R_drew HO_435001.out);replace HO_441001 := Aside0.mk (Kd.R_drew HO_441001.out);replace HO_467001 := Aside0.mk (Kd.R_drew HO_467001.out);replace BK428 := Aside0.mk (blk_drew BK428.out);replace BK434 := Aside0.mk (blk_drew BK434.out);replace BK440 := Aside0.mk (blk_drew BK440.out);replace BK448 := Aside0.mk (blk_drew BK448.out);replace BK454 := Aside0.mk (blk_drew BK454.out);replace BK460 := Aside0.mk (blk_drew BK460.out);replace BK466 := Aside0.mk (blk_drew BK466.out);replace BK472 := Aside0.mk (blk_drew BK472.out);replace BK479 := Aside0.mk (blk_drew BK479.out);replace HB := Aside0.mk (below_drew1 HB.out);refine start_ (n := 11) (S := fun w' => True) (ds := []) #[ff,ff,ff,ff,ff,ff,ff,ff,ff,ff,ff] (by kernel_rfl) rfl rfl trivial (fun hHeld => ?_); refine with_tabW laws_FnCatTake.tab17 laws_FnCatTake.bits17 (fun HT_ HW_ => ?_)
          generalize w125.drew = w126 at HO_429001 HO_435001 HO_441001 HO_467001 BK428 BK434 BK440 BK448 BK454 BK460 BK466 BK472 BK479 HB hHeld ⊢;refine pure_ (i := 0) (N := some 122) (v := ?_) (a' := ?_) #[tt,ff,ff,ff,ff,ff,ff,ff,ff,ff,ff] rfl rfl (any_of HT_.out (by kernel_rfl)) (fun _ _ _ h => h) (Or.inl ⟨by rfl, ?_⟩) ?_ ?_;rotate_left
          ·intro w';go_simp;with_reducible rfl
          rotate_left;·simp only [Act.put, sB, s0, s1, i64_w, i32_w];rfl
          refine pure_ (i := 1) (N := some 123) (v := ?_) (a' := ?_) #[tt,tt,ff,ff,ff,ff,ff,ff,ff,ff,ff] rfl rfl (any_of HT_.out (by kernel_rfl)) (fun _ _ _ h => h) (Or.inl ⟨by rfl, ?_⟩) ?_ ?_;rotate_left
          ·intro w';go_simp;with_reducible rfl
          rotate_left;·simp only [Act.put, sB, s0, s1, i64_w, i32_w];rfl
          refine pure_ (i := 2) (N := some 124) (v := ?_) (a' := ?_) #[tt,tt,tt,ff,ff,ff,ff,ff,ff,ff,ff] rfl rfl (any_of HT_.out (by kernel_rfl)) (fun _ _ _ h => h) (Or.inl ⟨by rfl, ?_⟩) ?_ ?_;rotate_left
          ·intro w';go_simp;with_reducible rfl
          rotate_left;·simp only [Act.put, sB, s0, s1, i64_w, i32_w];rfl
          refine pure_ (i := 3) (N := some 125) (v := undef) (a' := ?_) #[tt,tt,tt,tt,ff,ff,ff,ff,ff,ff,ff] rfl rfl (any_of HT_.out (by kernel_rfl)) (fun _ _ _ h => h) (Or.inr ⟨by rfl, rfl⟩) ?_ ?_;rotate_left
          ·simp only [Act.put, sB, s0, s1, i64_w, i32_w];rfl
          refine pure_ (i := 4) (N := some 126) (v := undef) (a' := ?_) #[tt,tt,tt,tt,tt,ff,ff,ff,ff,ff,ff] rfl rfl (any_of HT_.out (by kernel_rfl)) (fun _ _ _ h => h) (Or.inr ⟨by rfl, rfl⟩) ?_ ?_;rotate_left
          ·simp only [Act.put, sB, s0, s1, i64_w, i32_w];rfl
          refine pure_ (i := 5) (N := some 127) (v := undef) (a' := ?_) #[tt,tt,tt,tt,tt,tt,ff,ff,ff,ff,ff] rfl rfl (any_of HT_.out (by kernel_rfl)) (fun _ _ _ h => h) (Or.inr ⟨by rfl, rfl⟩) ?_ ?_;rotate_left
          ·simp only [Act.put, sB, s0, s1, i64_w, i32_w];rfl
          refine pure_ (i := 6) (N := some 128) (v := undef) (a' := ?_) #[tt,tt,tt,tt,tt,tt,tt,ff,ff,ff,ff] rfl rfl (any_of HT_.out (by kernel_rfl)) (fun _ _ _ h => h) (Or.inr ⟨by rfl, rfl⟩) ?_ ?_;rotate_left
          ·simp only [Act.put, sB, s0, s1, i64_w, i32_w];rfl
          refine pure_ (i := 7) (N := some 129) (v := undef) (a' := ?_) #[tt,tt,tt,tt,tt,tt,tt,tt,ff,ff,ff] rfl rfl (any_of HT_.out (by kernel_rfl)) (fun _ _ _ h => h) (Or.inr ⟨by rfl, rfl⟩) ?_ ?_;rotate_left
          ·simp only [Act.put, sB, s0, s1, i64_w, i32_w];rfl
          refine pure_ (i := 8) (N := some 130) (v := undef) (a' := ?_) #[tt,tt,tt,tt,tt,tt,tt,tt,tt,ff,ff] rfl rfl (any_of HT_.out (by kernel_rfl)) (fun _ _ _ h => h) (Or.inr ⟨by rfl, rfl⟩) ?_ ?_;rotate_left
          ·simp only [Act.put, sB, s0, s1, i64_w, i32_w];rfl
          refine pure_ (i := 9) (N := some 131) (v := undef) (a' := ?_) #[tt,tt,tt,tt,tt,tt,tt,tt,tt,tt,ff] rfl rfl (any_of HT_.out (by kernel_rfl)) (fun _ _ _ h => h) (Or.inr ⟨by rfl, rfl⟩) ?_ ?_;rotate_left
          ·simp only [Act.put, sB, s0, s1, i64_w, i32_w];rfl
          refine pure_ (i := 10) (N := some 132) (v := ?_) (a' := ?_) #[tt,tt,tt,tt,tt,tt,tt,tt,tt,tt,tt] rfl rfl (any_of HT_.out (by kernel_rfl)) (fun _ _ _ h => h) (Or.inl ⟨by rfl, ?_⟩) ?_ ?_;rotate_left
          ·intro w';go_simp;with_reducible rfl
          rotate_left;·simp only [Act.put, sB, s0, s1, i64_w, i32_w];rfl
          refine done_ (done_of HT_.out (by kernel_rfl)) ?_
          try go_wp2
          go_meet
          case rel => exact ⟨_, (true), (by first | rfl | (simp; done) | (simp [*]; done)), H', ⟨by have := HJ5.out; have := HK2.out; first | omega | exact Nat.le_refl _⟩, ⟨by exact Kd.R_lat (HO_429001.out)⟩, ⟨by exact Kd.R_lat (HO_435001.out)⟩, ⟨by exact Kd.R_lat (HO_441001.out)⟩, ⟨by exact Kd.R_lat (HO_467001.out)⟩, ⟨bl BK428.out⟩, ⟨bl BK434.out⟩, ⟨bl BK440.out⟩, ⟨bl BK448.out⟩, ⟨bl BK454.out⟩, ⟨bl BK460.out⟩, ⟨bl BK466.out⟩, ⟨bl BK472.out⟩, ⟨bl BK479.out⟩, ⟨by exact bb HB.out⟩⟩
         case rest =>
          clear HC105;try clear c1
          try clear p2
          try clear p4
          try clear q4
          try clear hx4
          try clear c12
          try clear c15
          try clear p48
          try clear q48
          try clear hx48
          try clear c122
          try clear hx480_0
          try clear hx480_1
          try clear hx480_2
          try clear hx480_3
          try clear p480
          try clear q480
          obtain ⟨kq, x132_104, rfl, HA, HJ104, HO_429001, HO_435001, HO_441001, HO_467001, BK428, BK434, BK440, BK448, BK454, BK460, BK466, BK472, BK479, HB⟩ := hcut
          cases kq with
          | zero => exact absurd HA.out (by simp [laws_FnCatTake.j2])
          | succ kj104 =>
           have H := HA.out;clear HA;simp only [laws_FnCatTake.j2] at H
           by_cases c127 : x132_104 = true
           ·subst c127;rw [if_pos rfl] at H;obtain rfl := Option.some.inj H;go_wp2;go_ret;exact ⟨by first | rfl | (simp [errW_none, errW_some] <;> rfl) | (simp [*, errW_none, errW_some] <;> rfl), by exact bb HB.out⟩
           replace c127 := Bool.eq_false_iff.mpr c127;subst c127;rw [if_neg (show ¬ (false = true) by decide)] at H;have H' := Aside0.mk H;clear H;go_wp2
           go_roundg kj104
           case measure => have := HJ5.out; have := HK2.out; have := HJ104.out; omega
           case rel => exact ⟨(wrap64 (x20_2 + 1)), (by first | rfl | (simp; done) | (simp [*]; done)), H', ⟨by have := HJ5.out; have := HK2.out; have := HJ104.out; omega⟩, ⟨by exact Kd.R_lat (Kd.R_mono HO_429001.out (fun _ hk => ⟨hk.1, ⟨hk.2.1, ⟨hk.2.2.1, ⟨hk.2.2.2.1, ⟨hk.2.2.2.2.1, ⟨hk.2.2.2.2.2.1, hk.2.2.2.2.2.2.1⟩⟩⟩⟩⟩⟩))⟩, ⟨by exact Kd.R_lat (Kd.R_mono HO_435001.out (fun _ hk => ⟨hk.1, ⟨hk.2.1, ⟨hk.2.2.1, ⟨hk.2.2.2.1, ⟨hk.2.2.2.2.1, ⟨hk.2.2.2.2.2.1, hk.2.2.2.2.2.2.1⟩⟩⟩⟩⟩⟩))⟩, ⟨by exact Kd.R_lat (Kd.R_mono HO_441001.out (fun _ hk => ⟨hk.1, ⟨hk.2.1, ⟨hk.2.2.1, ⟨hk.2.2.2.1, ⟨hk.2.2.2.2.1, ⟨hk.2.2.2.2.2.1, hk.2.2.2.2.2.2.1⟩⟩⟩⟩⟩⟩))⟩, ⟨by exact Kd.R_lat (Kd.R_mono HO_467001.out (fun _ hk => ⟨hk.1, ⟨hk.2.1, ⟨hk.2.2.1, ⟨hk.2.2.2.1, ⟨hk.2.2.2.2.1, ⟨hk.2.2.2.2.2.1, hk.2.2.2.2.2.2.1⟩⟩⟩⟩⟩⟩))⟩, ⟨bl BK428.out⟩, ⟨bl BK434.out⟩, ⟨bl BK440.out⟩, ⟨bl BK448.out⟩, ⟨bl BK454.out⟩, ⟨bl BK460.out⟩, ⟨bl BK466.out⟩, ⟨bl BK472.out⟩, ⟨by exact bb HB.out⟩⟩
        rw [if_neg c103] at H;exact absurd H (by simp)
       ·rw [if_neg c102] at H;have c102b0 : decide (x20_2 < (t430.length : Int)) = false := decide_eq_false c102;clear c102;have HC128 := Aside0.mk H;clear H;have hnb129 := NB434_428.out;have hnc129 := NB428_434.out;have hnb130 := NB434_440.out;have hnc130 := NB440_434.out;have hnb131 := NB434_448.out;have hnc131 := NB448_434.out;have hnb132 := NB434_454.out;have hnc132 := NB454_434.out;have hnb133 := NB434_460.out;have hnc133 := NB460_434.out;have hnb134 := NB434_466.out;have hnc134 := NB466_434.out;have hnb135 := NB434_472.out;have hnc135 := NB472_434.out;obtain ⟨hcz136_0, hcz136_1, hfz136_0, hfz136_1⟩ := c2 BK434
        go_upto_region 19 with (fail)
        go_cut [2] (fun v2 wc => ∃ (kq : Nat) (x2_127 : Bool), v2 = .bool x2_127 ∧ Aside0 (laws_FnCatTake.j3 kq x2_127 = some r) ∧ Aside0 (kq ≤ k2) ∧ Aside0 (Kd.R k38 38 wc w.heap.size (fun k_ => some k_ ≠ ((.slice Ao15 t430.length co15) : Value).ownBlock ∧ some k_ ≠ ((.slice Ao22 t436.length co22) : Value).ownBlock ∧ some k_ ≠ ((.slice Ao91 t462.length co91) : Value).ownBlock ∧ k_ ≠ gb448 ∧ k_ ≠ gb454 ∧ k_ ≠ gb460 ∧ k_ ≠ gb472) (.slice Ao10 t423.length co10) t423) ∧ Aside0 (Kd.R k38 38 wc w.heap.size (fun k_ => some k_ ≠ ((.slice Ao10 t423.length co10) : Value).ownBlock ∧ some k_ ≠ ((.slice Ao22 t436.length co22) : Value).ownBlock ∧ some k_ ≠ ((.slice Ao91 t462.length co91) : Value).ownBlock ∧ k_ ≠ gb448 ∧ k_ ≠ gb454 ∧ k_ ≠ gb460 ∧ k_ ≠ gb472) (.slice Ao15 t430.length co15) t430) ∧ Aside0 (Kd.R k38 38 wc w.heap.size (fun k_ => some k_ ≠ ((.slice Ao10 t423.length co10) : Value).ownBlock ∧ some k_ ≠ ((.slice Ao15 t430.length co15) : Value).ownBlock ∧ some k_ ≠ ((.slice Ao91 t462.length co91) : Value).ownBlock ∧ k_ ≠ gb448 ∧ k_ ≠ gb454 ∧ k_ ≠ gb460 ∧ k_ ≠ gb472) (.slice Ao22 t436.length co22) t436) ∧ Aside0 (Kd.R k38 38 wc w.heap.size (fun k_ => some k_ ≠ ((.slice Ao10 t423.length co10) : Value).ownBlock ∧ some k_ ≠ ((.slice Ao15 t430.length co15) : Value).ownBlock ∧ some k_ ≠ ((.slice Ao22 t436.length co22) : Value).ownBlock ∧ k_ ≠ gb448 ∧ k_ ≠ gb454 ∧ k_ ≠ gb460 ∧ k_ ≠ gb472) (.slice Ao91 t462.length co91) t462) ∧ Aside0 (wc.heap[gb428]? = some (.cells #[.int .i64 t422, (.slice Ao10 t423.length co10)] 25 (0, 0))) ∧ Aside0 (wc.heap[gb434]? = some (.cells #[.int .i64 t429, (.slice Ao15 t430.length co15)] 25 (0, 0))) ∧ Aside0 (wc.heap[gb440]? = some (.cells #[.int .i64 t435, (.slice Ao22 t436.length co22)] 25 (0, 0))) ∧ Aside0 (wc.heap[gb448]? = some (.cells #[.int .i64 t443, .string t444, .int .i64 t445, .string t446] 38 (0, 0))) ∧ Aside0 (wc.heap[gb454]? = some (.cells #[.int .i64 t449, .string t450, .int .i64 t451, .string t452] 38 (0, 0))) ∧ Aside0 (wc.heap[gb460]? = some (.cells #[.int .i64 t455, .string t456, .int .i64 t457, .string t458] 38 (0, 0))) ∧ Aside0 (wc.heap[gb466]? = some (.cells #[.int .i64 t461, (.slice Ao91 t462.length co91)] 25 (0, 0))) ∧ Aside0 (wc.heap[gb472]? = some (.cells #[.int .i64 t467, .string t468, .int .i64 t469, .string t470] 38 (0, 0))) ∧ Aside0 (Below w.heap.size w wc))
        case first =>
         have H := HC128.out;clear HC128
         by_cases c137 : t453 = true
         ·subst c137;rw [if_pos rfl] at H;have H' := Aside0.mk H;clear H;go_wp2
          go_meet
          case rel => exact ⟨_, (false), (by first | rfl | (simp; done) | (simp [*]; done)), H', ⟨by have := HJ5.out; have := HK2.out; first | omega | exact Nat.le_refl _⟩, ⟨by exact Kd.R_lat (HO_429001.out)⟩, ⟨by exact Kd.R_lat (HO_435001.out)⟩, ⟨by exact Kd.R_lat (HO_441001.out)⟩, ⟨by exact Kd.R_lat (HO_467001.out)⟩, ⟨bl BK428.out⟩, ⟨bl BK434.out⟩, ⟨bl BK440.out⟩, ⟨bl BK448.out⟩, ⟨bl BK454.out⟩, ⟨bl BK460.out⟩, ⟨bl BK466.out⟩, ⟨bl BK472.out⟩, ⟨by exact bb HB.out⟩⟩
         ·replace c137 := Bool.eq_false_iff.mpr c137;subst c137;rw [if_neg (show ¬ (false = true) by decide)] at H
          by_cases c138 : t459 = true
          ·subst c138;rw [if_pos rfl] at H;have H' := Aside0.mk H;clear H;go_wp2
           go_meet
           case rel => exact ⟨_, (false), (by first | rfl | (simp; done) | (simp [*]; done)), H', ⟨by have := HJ5.out; have := HK2.out; first | omega | exact Nat.le_refl _⟩, ⟨by exact Kd.R_lat (HO_429001.out)⟩, ⟨by exact Kd.R_lat (HO_435001.out)⟩, ⟨by exact Kd.R_lat (HO_441001.out)⟩, ⟨by exact Kd.R_lat (HO_467001.out)⟩, ⟨bl BK428.out⟩, ⟨bl BK434.out⟩, ⟨bl BK440.out⟩, ⟨bl BK448.out⟩, ⟨bl BK454.out⟩, ⟨bl BK460.out⟩, ⟨bl BK466.out⟩, ⟨bl BK472.out⟩, ⟨by exact bb HB.out⟩⟩
          ·replace c138 := Bool.eq_false_iff.mpr c138;subst c138;rw [if_neg (show ¬ (false = true) by decide)] at H;replace H := Option.bind_eq_some_iff.mp H;obtain ⟨t481, A1390, H⟩ := H;have A139 := Aside0.mk A1390;clear A1390
           by_cases c140 : t481 = true
           ·subst c140;rw [if_pos rfl] at H
            by_cases c141 : t429 = t422
            ·rw [if_pos c141] at H;have c141b0 : (t429 == t422) = true := beq_iff_eq.mpr c141;have c141b1 : (t429 != t422) = false := bne_eq_false_iff_eq.mpr c141;clear c141
             (first | rw [c141b0] | (simp only [i64_w, i32_w]; rw [c141b0]) | skip)
             by_cases c142 : t465 = 0
             ·rw [if_pos c142] at H;have c142b0 : (t465 == 0) = true := beq_iff_eq.mpr c142;have c142b1 : (t465 != 0) = false := bne_eq_false_iff_eq.mpr c142;clear c142
              by_cases c143 : t471 = true
              ·subst c143;rw [if_pos rfl] at H
               by_cases c144 : t470.toList = t446.toList
               ·rw [if_pos c144] at H;have c144b0 : (t470.toList == t446.toList) = true := beq_iff_eq.mpr c144;have c144b1 : (t470.toList != t446.toList) = false := bne_eq_false_iff_eq.mpr c144;clear c144;have H' := Aside0.mk H;clear H;have hnb145 := NB434_428.out;have hnc145 := NB428_434.out;have hnb146 := NB434_440.out;have hnc146 := NB440_434.out;have hnb147 := NB434_448.out;have hnc147 := NB448_434.out;have hnb148 := NB434_454.out;have hnc148 := NB454_434.out;have hnb149 := NB434_460.out;have hnc149 := NB460_434.out;have hnb150 := NB434_466.out;have hnc150 := NB466_434.out;have hnb151 := NB434_472.out;have hnc151 := NB472_434.out;obtain ⟨hcz152_0, hcz152_1, hfz152_0, hfz152_1⟩ := c2 BK434;go_wp2_with (first | (go_at_call 16; (with_reducible refine (impl_CatOk.calls k2 t429 _ _ t430 true _ ?side1 ?side2 A139.out).mono ?_); (case side1 => exact Kd.cR HO_435001); (case side2 => exact (Kd.R_reads' HO_435001.out).2.1); rintro e w153 ⟨rfl, hb⟩; replace HO_429001 := Kd.rR HO_429001 hb; replace HO_435001 := Kd.rR HO_435001 hb; replace HO_441001 := Kd.rR HO_441001 hb; replace HO_467001 := Kd.rR HO_467001 hb; replace BK428 := kb BK428 hb; replace BK434 := kb BK434 hb; replace BK440 := kb BK440 hb; replace BK448 := kb BK448 hb; replace BK454 := kb BK454 hb; replace BK460 := kb BK460 hb; replace BK466 := kb BK466 hb; replace BK472 := kb BK472 hb; replace HB := hbb HB hb; (try clear hb); (try clear hb2); (try clear hk); (try clear hi); obtain ⟨hcz154_0, hcz154_1, hfz154_0, hfz154_1⟩ := c2 BK434; have hnb155 := NB428_440.out; have hnc155 := NB440_428.out; have hnb156 := NB428_448.out; have hnc156 := NB448_428.out; have hnb157 := NB428_454.out; have hnc157 := NB454_428.out; have hnb158 := NB428_460.out; have hnc158 := NB460_428.out; have hnb159 := NB428_466.out; have hnc159 := NB466_428.out; have hnb160 := NB428_472.out; have hnc160 := NB472_428.out; obtain ⟨hcz161_0, hcz161_1, hfz161_0, hfz161_1⟩ := c2 BK428; have hnb162 := NB472_440.out; have hnc162 := NB440_472.out; have hnb163 := NB472_448.out; have hnc163 := NB448_472.out; have hnb164 := NB472_454.out; have hnc164 := NB454_472.out; have hnb165 := NB472_460.out; have hnc165 := NB460_472.out; have hnb166 := NB472_466.out; have hnc166 := NB466_472.out; obtain ⟨hcz167_0, hcz167_1, hcz167_2, hcz167_3, hfz167_0, hfz167_1, hfz167_2, hfz167_3⟩ := c4 BK472; have hnb168 := NB448_440.out; have hnc168 := NB440_448.out; have hnb169 := NB448_454.out; have hnc169 := NB454_448.out; have hnb170 := NB448_460.out; have hnc170 := NB460_448.out; have hnb171 := NB448_466.out; have hnc171 := NB466_448.out; obtain ⟨hcz172_0, hcz172_1, hcz172_2, hcz172_3, hfz172_0, hfz172_1, hfz172_2, hfz172_3⟩ := c4 BK448))
                go_meet
                case rel => exact ⟨_, (decide (t469 > t445)), (by first | rfl | (simp; done) | (simp [*]; done)), H', ⟨by have := HJ5.out; have := HK2.out; first | omega | exact Nat.le_refl _⟩, ⟨by exact Kd.R_lat (HO_429001.out)⟩, ⟨by exact Kd.R_lat (HO_435001.out)⟩, ⟨by exact Kd.R_lat (HO_441001.out)⟩, ⟨by exact Kd.R_lat (HO_467001.out)⟩, ⟨bl BK428.out⟩, ⟨bl BK434.out⟩, ⟨bl BK440.out⟩, ⟨bl BK448.out⟩, ⟨bl BK454.out⟩, ⟨bl BK460.out⟩, ⟨bl BK466.out⟩, ⟨bl BK472.out⟩, ⟨by exact bb HB.out⟩⟩
               rw [if_neg c144] at H;have c144b0 : (t470.toList == t446.toList) = false := beq_eq_false_iff_ne.mpr c144;have c144b1 : (t470.toList != t446.toList) = true := bne_iff_ne.mpr c144;have H' := Aside0.mk H;clear H;have hnb173 := NB434_428.out;have hnc173 := NB428_434.out;have hnb174 := NB434_440.out;have hnc174 := NB440_434.out;have hnb175 := NB434_448.out;have hnc175 := NB448_434.out;have hnb176 := NB434_454.out;have hnc176 := NB454_434.out;have hnb177 := NB434_460.out;have hnc177 := NB460_434.out;have hnb178 := NB434_466.out;have hnc178 := NB466_434.out;have hnb179 := NB434_472.out;have hnc179 := NB472_434.out;obtain ⟨hcz180_0, hcz180_1, hfz180_0, hfz180_1⟩ := c2 BK434;go_wp2_with (first | (go_at_call 16; (with_reducible refine (impl_CatOk.calls k2 t429 _ _ t430 true _ ?side1 ?side2 A139.out).mono ?_); (case side1 => exact Kd.cR HO_435001); (case side2 => exact (Kd.R_reads' HO_435001.out).2.1); rintro e w181 ⟨rfl, hb⟩; replace HO_429001 := Kd.rR HO_429001 hb; replace HO_435001 := Kd.rR HO_435001 hb; replace HO_441001 := Kd.rR HO_441001 hb; replace HO_467001 := Kd.rR HO_467001 hb; replace BK428 := kb BK428 hb; replace BK434 := kb BK434 hb; replace BK440 := kb BK440 hb; replace BK448 := kb BK448 hb; replace BK454 := kb BK454 hb; replace BK460 := kb BK460 hb; replace BK466 := kb BK466 hb; replace BK472 := kb BK472 hb; replace HB := hbb HB hb; (try clear hb); (try clear hb2); (try clear hk); (try clear hi); obtain ⟨hcz182_0, hcz182_1, hfz182_0, hfz182_1⟩ := c2 BK434; have hnb183 := NB428_440.out; have hnc183 := NB440_428.out; have hnb184 := NB428_448.out; have hnc184 := NB448_428.out; have hnb185 := NB428_454.out; have hnc185 := NB454_428.out; have hnb186 := NB428_460.out; have hnc186 := NB460_428.out; have hnb187 := NB428_466.out; have hnc187 := NB466_428.out; have hnb188 := NB428_472.out; have hnc188 := NB472_428.out; obtain ⟨hcz189_0, hcz189_1, hfz189_0, hfz189_1⟩ := c2 BK428; have hnb190 := NB472_440.out; have hnc190 := NB440_472.out; have hnb191 := NB472_448.out; have hnc191 := NB448_472.out; have hnb192 := NB472_454.out; have hnc192 := NB454_472.out; have hnb193 := NB472_460.out; have hnc193 := NB460_472.out; have hnb194 := NB472_466.out; have hnc194 := NB466_472.out; obtain ⟨hcz195_0, hcz195_1, hcz195_2, hcz195_3, hfz195_0, hfz195_1, hfz195_2, hfz195_3⟩ := c4 BK472; have hnb196 := NB448_440.out; have hnc196 := NB440_448.out; have hnb197 := NB448_454.out; have hnc197 := NB454_448.out; have hnb198 := NB448_460.out; have hnc198 := NB460_448.out; have hnb199 := NB448_466.out; have hnc199 := NB466_448.out; obtain ⟨hcz200_0, hcz200_1, hcz200_2, hcz200_3, hfz200_0, hfz200_1, hfz200_2, hfz200_3⟩ := c4 BK448))
               go_meet
               case rel => exact ⟨_, (false), (by first | rfl | (simp; done) | (simp [*]; done)), H', ⟨by have := HJ5.out; have := HK2.out; first | omega | exact Nat.le_refl _⟩, ⟨by exact Kd.R_lat (HO_429001.out)⟩, ⟨by exact Kd.R_lat (HO_435001.out)⟩, ⟨by exact Kd.R_lat (HO_441001.out)⟩, ⟨by exact Kd.R_lat (HO_467001.out)⟩, ⟨bl BK428.out⟩, ⟨bl BK434.out⟩, ⟨bl BK440.out⟩, ⟨bl BK448.out⟩, ⟨bl BK454.out⟩, ⟨bl BK460.out⟩, ⟨bl BK466.out⟩, ⟨bl BK472.out⟩, ⟨by exact bb HB.out⟩⟩
              replace c143 := Bool.eq_false_iff.mpr c143;subst c143;rw [if_neg (show ¬ (false = true) by decide)] at H;have H' := Aside0.mk H;clear H;have hnb201 := NB434_428.out;have hnc201 := NB428_434.out;have hnb202 := NB434_440.out;have hnc202 := NB440_434.out;have hnb203 := NB434_448.out;have hnc203 := NB448_434.out;have hnb204 := NB434_454.out;have hnc204 := NB454_434.out;have hnb205 := NB434_460.out;have hnc205 := NB460_434.out;have hnb206 := NB434_466.out;have hnc206 := NB466_434.out;have hnb207 := NB434_472.out;have hnc207 := NB472_434.out;obtain ⟨hcz208_0, hcz208_1, hfz208_0, hfz208_1⟩ := c2 BK434;go_wp2_with (first | (go_at_call 16; (with_reducible refine (impl_CatOk.calls k2 t429 _ _ t430 true _ ?side1 ?side2 A139.out).mono ?_); (case side1 => exact Kd.cR HO_435001); (case side2 => exact (Kd.R_reads' HO_435001.out).2.1); rintro e w209 ⟨rfl, hb⟩; replace HO_429001 := Kd.rR HO_429001 hb; replace HO_435001 := Kd.rR HO_435001 hb; replace HO_441001 := Kd.rR HO_441001 hb; replace HO_467001 := Kd.rR HO_467001 hb; replace BK428 := kb BK428 hb; replace BK434 := kb BK434 hb; replace BK440 := kb BK440 hb; replace BK448 := kb BK448 hb; replace BK454 := kb BK454 hb; replace BK460 := kb BK460 hb; replace BK466 := kb BK466 hb; replace BK472 := kb BK472 hb; replace HB := hbb HB hb; (try clear hb); (try clear hb2); (try clear hk); (try clear hi); obtain ⟨hcz210_0, hcz210_1, hfz210_0, hfz210_1⟩ := c2 BK434; have hnb211 := NB428_440.out; have hnc211 := NB440_428.out; have hnb212 := NB428_448.out; have hnc212 := NB448_428.out; have hnb213 := NB428_454.out; have hnc213 := NB454_428.out; have hnb214 := NB428_460.out; have hnc214 := NB460_428.out; have hnb215 := NB428_466.out; have hnc215 := NB466_428.out; have hnb216 := NB428_472.out; have hnc216 := NB472_428.out; obtain ⟨hcz217_0, hcz217_1, hfz217_0, hfz217_1⟩ := c2 BK428))
              go_meet
              case rel => exact ⟨_, (false), (by first | rfl | (simp; done) | (simp [*]; done)), H', ⟨by have := HJ5.out; have := HK2.out; first | omega | exact Nat.le_refl _⟩, ⟨by exact Kd.R_lat (HO_429001.out)⟩, ⟨by exact Kd.R_lat (HO_435001.out)⟩, ⟨by exact Kd.R_lat (HO_441001.out)⟩, ⟨by exact Kd.R_lat (HO_467001.out)⟩, ⟨bl BK428.out⟩, ⟨bl BK434.out⟩, ⟨bl BK440.out⟩, ⟨bl BK448.out⟩, ⟨bl BK454.out⟩, ⟨bl BK460.out⟩, ⟨bl BK466.out⟩, ⟨bl BK472.out⟩, ⟨by exact bb HB.out⟩⟩
             rw [if_neg c142] at H;have c142b0 : (t465 == 0) = false := beq_eq_false_iff_ne.mpr c142;have c142b1 : (t465 != 0) = true := bne_iff_ne.mpr c142;have H' := Aside0.mk H;clear H;have hnb218 := NB434_428.out;have hnc218 := NB428_434.out;have hnb219 := NB434_440.out;have hnc219 := NB440_434.out;have hnb220 := NB434_448.out;have hnc220 := NB448_434.out;have hnb221 := NB434_454.out;have hnc221 := NB454_434.out;have hnb222 := NB434_460.out;have hnc222 := NB460_434.out;have hnb223 := NB434_466.out;have hnc223 := NB466_434.out;have hnb224 := NB434_472.out;have hnc224 := NB472_434.out;obtain ⟨hcz225_0, hcz225_1, hfz225_0, hfz225_1⟩ := c2 BK434;go_wp2_with (first | (go_at_call 16; (with_reducible refine (impl_CatOk.calls k2 t429 _ _ t430 true _ ?side1 ?side2 A139.out).mono ?_); (case side1 => exact Kd.cR HO_435001); (case side2 => exact (Kd.R_reads' HO_435001.out).2.1); rintro e w226 ⟨rfl, hb⟩; replace HO_429001 := Kd.rR HO_429001 hb; replace HO_435001 := Kd.rR HO_435001 hb; replace HO_441001 := Kd.rR HO_441001 hb; replace HO_467001 := Kd.rR HO_467001 hb; replace BK428 := kb BK428 hb; replace BK434 := kb BK434 hb; replace BK440 := kb BK440 hb; replace BK448 := kb BK448 hb; replace BK454 := kb BK454 hb; replace BK460 := kb BK460 hb; replace BK466 := kb BK466 hb; replace BK472 := kb BK472 hb; replace HB := hbb HB hb; (try clear hb); (try clear hb2); (try clear hk); (try clear hi); obtain ⟨hcz227_0, hcz227_1, hfz227_0, hfz227_1⟩ := c2 BK434; have hnb228 := NB428_440.out; have hnc228 := NB440_428.out; have hnb229 := NB428_448.out; have hnc229 := NB448_428.out; have hnb230 := NB428_454.out; have hnc230 := NB454_428.out; have hnb231 := NB428_460.out; have hnc231 := NB460_428.out; have hnb232 := NB428_466.out; have hnc232 := NB466_428.out; have hnb233 := NB428_472.out; have hnc233 := NB472_428.out; obtain ⟨hcz234_0, hcz234_1, hfz234_0, hfz234_1⟩ := c2 BK428))
             go_meet
             case rel => exact ⟨_, (true), (by first | rfl | (simp; done) | (simp [*]; done)), H', ⟨by have := HJ5.out; have := HK2.out; first | omega | exact Nat.le_refl _⟩, ⟨by exact Kd.R_lat (HO_429001.out)⟩, ⟨by exact Kd.R_lat (HO_435001.out)⟩, ⟨by exact Kd.R_lat (HO_441001.out)⟩, ⟨by exact Kd.R_lat (HO_467001.out)⟩, ⟨bl BK428.out⟩, ⟨bl BK434.out⟩, ⟨bl BK440.out⟩, ⟨bl BK448.out⟩, ⟨bl BK454.out⟩, ⟨bl BK460.out⟩, ⟨bl BK466.out⟩, ⟨bl BK472.out⟩, ⟨by exact bb HB.out⟩⟩
            rw [if_neg c141] at H;have c141b0 : (t429 == t422) = false := beq_eq_false_iff_ne.mpr c141;have c141b1 : (t429 != t422) = true := bne_iff_ne.mpr c141
            (first | rw [c141b0] | (simp only [i64_w, i32_w]; rw [c141b0]) | skip)
            have H' := Aside0.mk H;clear H;have hnb235 := NB434_428.out;have hnc235 := NB428_434.out;have hnb236 := NB434_440.out;have hnc236 := NB440_434.out;have hnb237 := NB434_448.out;have hnc237 := NB448_434.out;have hnb238 := NB434_454.out;have hnc238 := NB454_434.out;have hnb239 := NB434_460.out;have hnc239 := NB460_434.out;have hnb240 := NB434_466.out;have hnc240 := NB466_434.out;have hnb241 := NB434_472.out;have hnc241 := NB472_434.out;obtain ⟨hcz242_0, hcz242_1, hfz242_0, hfz242_1⟩ := c2 BK434;go_wp2_with (first | (go_at_call 16; (with_reducible refine (impl_CatOk.calls k2 t429 _ _ t430 true _ ?side1 ?side2 A139.out).mono ?_); (case side1 => exact Kd.cR HO_435001); (case side2 => exact (Kd.R_reads' HO_435001.out).2.1); rintro e w243 ⟨rfl, hb⟩; replace HO_429001 := Kd.rR HO_429001 hb; replace HO_435001 := Kd.rR HO_435001 hb; replace HO_441001 := Kd.rR HO_441001 hb; replace HO_467001 := Kd.rR HO_467001 hb; replace BK428 := kb BK428 hb; replace BK434 := kb BK434 hb; replace BK440 := kb BK440 hb; replace BK448 := kb BK448 hb; replace BK454 := kb BK454 hb; replace BK460 := kb BK460 hb; replace BK466 := kb BK466 hb; replace BK472 := kb BK472 hb; replace HB := hbb HB hb; (try clear hb); (try clear hb2); (try clear hk); (try clear hi); obtain ⟨hcz244_0, hcz244_1, hfz244_0, hfz244_1⟩ := c2 BK434; have hnb245 := NB428_440.out; have hnc245 := NB440_428.out; have hnb246 := NB428_448.out; have hnc246 := NB448_428.out; have hnb247 := NB428_454.out; have hnc247 := NB454_428.out; have hnb248 := NB428_460.out; have hnc248 := NB460_428.out; have hnb249 := NB428_466.out; have hnc249 := NB466_428.out; have hnb250 := NB428_472.out; have hnc250 := NB472_428.out; obtain ⟨hcz251_0, hcz251_1, hfz251_0, hfz251_1⟩ := c2 BK428))
            go_meet
            case rel => exact ⟨_, (false), (by first | rfl | (simp; done) | (simp [*]; done)), H', ⟨by have := HJ5.out; have := HK2.out; first | omega | exact Nat.le_refl _⟩, ⟨by exact Kd.R_lat (HO_429001.out)⟩, ⟨by exact Kd.R_lat (HO_435001.out)⟩, ⟨by exact Kd.R_lat (HO_441001.out)⟩, ⟨by exact Kd.R_lat (HO_467001.out)⟩, ⟨bl BK428.out⟩, ⟨bl BK434.out⟩, ⟨bl BK440.out⟩, ⟨bl BK448.out⟩, ⟨bl BK454.out⟩, ⟨bl BK460.out⟩, ⟨bl BK466.out⟩, ⟨bl BK472.out⟩, ⟨by exact bb HB.out⟩⟩
           replace c140 := Bool.eq_false_iff.mpr c140;subst c140;rw [if_neg (show ¬ (false = true) by decide)] at H;have H' := Aside0.mk H;clear H;have hnb252 := NB434_428.out;have hnc252 := NB428_434.out;have hnb253 := NB434_440.out;have hnc253 := NB440_434.out;have hnb254 := NB434_448.out;have hnc254 := NB448_434.out;have hnb255 := NB434_454.out;have hnc255 := NB454_434.out;have hnb256 := NB434_460.out;have hnc256 := NB460_434.out;have hnb257 := NB434_466.out;have hnc257 := NB466_434.out;have hnb258 := NB434_472.out;have hnc258 := NB472_434.out;obtain ⟨hcz259_0, hcz259_1, hfz259_0, hfz259_1⟩ := c2 BK434;go_wp2_with (first | (go_at_call 16; (with_reducible refine (impl_CatOk.calls k2 t429 _ _ t430 false _ ?side1 ?side2 A139.out).mono ?_); (case side1 => exact Kd.cR HO_435001); (case side2 => exact (Kd.R_reads' HO_435001.out).2.1); rintro e w260 ⟨rfl, hb⟩; replace HO_429001 := Kd.rR HO_429001 hb; replace HO_435001 := Kd.rR HO_435001 hb; replace HO_441001 := Kd.rR HO_441001 hb; replace HO_467001 := Kd.rR HO_467001 hb; replace BK428 := kb BK428 hb; replace BK434 := kb BK434 hb; replace BK440 := kb BK440 hb; replace BK448 := kb BK448 hb; replace BK454 := kb BK454 hb; replace BK460 := kb BK460 hb; replace BK466 := kb BK466 hb; replace BK472 := kb BK472 hb; replace HB := hbb HB hb; (try clear hb); (try clear hb2); (try clear hk); (try clear hi)))
           go_meet
           case rel => exact ⟨_, (false), (by first | rfl | (simp; done) | (simp [*]; done)), H', ⟨by have := HJ5.out; have := HK2.out; first | omega | exact Nat.le_refl _⟩, ⟨by exact Kd.R_lat (HO_429001.out)⟩, ⟨by exact Kd.R_lat (HO_435001.out)⟩, ⟨by exact Kd.R_lat (HO_441001.out)⟩, ⟨by exact Kd.R_lat (HO_467001.out)⟩, ⟨bl BK428.out⟩, ⟨bl BK434.out⟩, ⟨bl BK440.out⟩, ⟨bl BK448.out⟩, ⟨bl BK454.out⟩, ⟨bl BK460.out⟩, ⟨bl BK466.out⟩, ⟨bl BK472.out⟩, ⟨by exact bb HB.out⟩⟩
        case rest =>
         clear HC128;try clear c1
         try clear c2
         try clear p2
         try clear p4
         try clear q4
         try clear hx4
         try clear p6
         try clear c10
         try clear c12
         try clear c13
         try clear c14
         try clear c15
         try clear c16
         try clear c17
         try clear c18
         try clear c19
         try clear c20
         try clear c21
         try clear c22
         try clear c23
         try clear c24
         try clear c25
         try clear p48
         try clear q48
         try clear hx48
         try clear p64
         try clear c102
         try clear c102b0
         try clear c103
         try clear c122
         try clear c127
         try clear c129
         try clear c130
         try clear c131
         try clear c132
         try clear c133
         try clear c134
         try clear c135
         try clear c137
         try clear c138
         try clear c140
         try clear c141
         try clear c141b0
         try clear c141b1
         try clear c142
         try clear c142b0
         try clear c142b1
         try clear c143
         try clear c144
         try clear c144b0
         try clear c144b1
         try clear c145
         try clear c146
         try clear c147
         try clear c148
         try clear c149
         try clear c150
         try clear c151
         try clear c155
         try clear c156
         try clear c157
         try clear c158
         try clear c159
         try clear c160
         try clear c162
         try clear c163
         try clear c164
         try clear c165
         try clear c166
         try clear c168
         try clear c169
         try clear c170
         try clear c171
         try clear c173
         try clear c174
         try clear c175
         try clear c176
         try clear c177
         try clear c178
         try clear c179
         try clear c183
         try clear c184
         try clear c185
         try clear c186
         try clear c187
         try clear c188
         try clear c190
         try clear c191
         try clear c192
         try clear c193
         try clear c194
         try clear c196
         try clear c197
         try clear c198
         try clear c199
         try clear c201
         try clear c202
         try clear c203
         try clear c204
         try clear c205
         try clear c206
         try clear c207
         try clear c211
         try clear c212
         try clear c213
         try clear c214
         try clear c215
         try clear c216
         try clear c218
         try clear c219
         try clear c220
         try clear c221
         try clear c222
         try clear c223
         try clear c224
         try clear c228
         try clear c229
         try clear c230
         try clear c231
         try clear c232
         try clear c233
         try clear c235
         try clear c236
         try clear c237
         try clear c238
         try clear c239
         try clear c240
         try clear c241
         try clear c245
         try clear c246
         try clear c247
         try clear c248
         try clear c249
         try clear c250
         try clear c252
         try clear c253
         try clear c254
         try clear c255
         try clear c256
         try clear c257
         try clear c258
         try clear hcz136_0
         try clear hcz136_1
         try clear hcz152_0
         try clear hcz152_1
         try clear hcz154_0
         try clear hcz154_1
         try clear hcz161_0
         try clear hcz161_1
         try clear hcz167_0
         try clear hcz167_1
         try clear hcz167_2
         try clear hcz167_3
         try clear hcz172_0
         try clear hcz172_1
         try clear hcz172_2
         try clear hcz172_3
         try clear hcz180_0
         try clear hcz180_1
         try clear hcz182_0
         try clear hcz182_1
         try clear hcz189_0
         try clear hcz189_1
         try clear hcz195_0
         try clear hcz195_1
         try clear hcz195_2
         try clear hcz195_3
         try clear hcz200_0
         try clear hcz200_1
         try clear hcz200_2
         try clear hcz200_3
         try clear hcz208_0
         try clear hcz208_1
         try clear hcz210_0
         try clear hcz210_1
         try clear hcz217_0
         try clear hcz217_1
         try clear hcz225_0
         try clear hcz225_1
         try clear hcz227_0
         try clear hcz227_1
         try clear hcz234_0
         try clear hcz234_1
         try clear hcz242_0
         try clear hcz242_1
         try clear hcz244_0
         try clear hcz244_1
         try clear hcz251_0
         try clear hcz251_1
         try clear hcz259_0
         try clear hcz259_1
         try clear hfz136_0
         try clear hfz136_1
         try clear hfz152_0
         try clear hfz152_1
         try clear hfz154_0
         try clear hfz154_1
         try clear hfz161_0
         try clear hfz161_1
         try clear hfz167_0
         try clear hfz167_1
         try clear hfz167_2
         try clear hfz167_3
         try clear hfz172_0
         try clear hfz172_1
         try clear hfz172_2
         try clear hfz172_3
         try clear hfz180_0
         try clear hfz180_1
         try clear hfz182_0
         try clear hfz182_1
         try clear hfz189_0
         try clear hfz189_1
         try clear hfz195_0
         try clear hfz195_1
         try clear hfz195_2
         try clear hfz195_3
         try clear hfz200_0
         try clear hfz200_1
         try clear hfz200_2
         try clear hfz200_3
         try clear hfz208_0
         try clear hfz208_1
         try clear hfz210_0
         try clear hfz210_1
         try clear hfz217_0
         try clear hfz217_1
         try clear hfz225_0
         try clear hfz225_1
         try clear hfz227_0
         try clear hfz227_1
         try clear hfz234_0
         try clear hfz234_1
         try clear hfz242_0
         try clear hfz242_1
         try clear hfz244_0
         try clear hfz244_1
         try clear hfz251_0
         try clear hfz251_1
         try clear hfz259_0
         try clear hfz259_1
         try clear hx480_0
         try clear hx480_1
         try clear hx480_2
         try clear hx480_3
         try clear p2
         try clear p4
         try clear p48
         try clear p480
         try clear q4
         try clear q48
         try clear q480
         obtain ⟨kq, x2_127, rfl, HA, HJ127, HO_429001, HO_435001, HO_441001, HO_467001, BK428, BK434, BK440, BK448, BK454, BK460, BK466, BK472, HB⟩ := hcut
         cases kq with
         | zero => exact absurd HA.out (by simp [laws_FnCatTake.j3])
         | succ kj127 =>
          have H := HA.out;clear HA;simp only [laws_FnCatTake.j3] at H;obtain rfl := Option.some.inj H;go_wp2;go_ret;exact ⟨by first | rfl | (simp [errW_none, errW_some] <;> rfl) | (simp [*, errW_none, errW_some] <;> rfl), by exact bb HB.out⟩
/-- THE ONE PURE STATEMENT of laws_FnCatTake: yours. -/
def laws_FnCatTake.Pure : Prop := ∀ (l0 : List Int), l0.length ≤ maxLen → l0.length * 1 ≤ 140737488351232 → (∀ x ∈ l0, (Lit.int .u8 x).wf = true) → ∃ k, laws_FnCatTake.f k l0 = some true
theorem laws_FnCatTake.walk (P : laws_FnCatTake.Pure) (a0 : Option Addr) (len0 cap0 : Nat) (z0 : List Int) (w : World) (w0 : (a0 = none ∧ len0 = 0 ∧ cap0 = 0 ∧ z0 = []) ∨ ∃ x, a0 = some x ∧ len0 ≤ cap0 ∧ cap0 ≤ maxLen ∧ z0.length = cap0 ∧ (∀ i, i < z0.length → w.cell? (x.add i) = some (.int .u8 (z0.getD i 0))) ∧ ∀ n ∈ z0, (Lit.int .u8 n).wf = true) (y0 : len0 * 1 ≤ 140737488351232) :
  Calls Try.prog 4 #[.slice a0 len0 cap0] w fun e w' => e = .returned (.bool true) ∧ Below w.heap.size w w' := by
 obtain ⟨l0, rfl, hr0, hm0, hw0, hc0⟩ := ReadsInt.ofRowC w0;obtain ⟨k, h⟩ := P l0 hm0 y0 hw0;refine (laws_FnCatTake.calls k _ _ l0 true w (Kd.C_of_reads (d := (0 : Int)) (h1 := fun _ => rfl) hr0) hc0 h).mono ?_;rintro e w' ⟨rfl, hd⟩;exact ⟨rfl, hd⟩
end Go.Proofs.Ytoohbmoljdfbjaa.P
