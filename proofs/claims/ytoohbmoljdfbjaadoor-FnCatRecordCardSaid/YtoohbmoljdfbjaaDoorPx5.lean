-- made by wip/prt/pp.py over the kit's print
import Derived.Test.YtoohbmoljdfbjaaDoorPx0
import Derived.Test.YtoohbmoljdfbjaaDoorPx3
import Derived.Test.YtoohbmoljdfbjaaDoorPx4
import Derived.Test.YtoohbmoljdfbjaaDoorFind
import Derived.Test.YtoohbmoljdfbjaaDoorGlob
import Derived.Test.YtoohbmoljdfbjaaDoorLib
import Derived.Test.YtoohbmoljdfbjaaDoorSort
namespace Go.Proofs.YtoohbmoljdfbjaaDoor.P
open Go.RowKit Go.Proofs.YtoohbmoljdfbjaaDoorW.PrintWords Go.Proofs.YtoohbmoljdfbjaaDoorW.PrintLast Go.Proofs.YtoohbmoljdfbjaaDoorW.PrintMore
attribute [local go_sem] max2_int min2_int max_two min_two max_three min_three max_four min_four   -- for this text's walks alone
set_option linter.unusedVariables false
set_option linter.unusedSimpArgs false
def impl_Cat_put.j0 : Nat → Int → ByteArray → ByteArray → Bool → Int → List (S33) → Option (Int × (List (S33)) × Int)
 | 0, _, _, _, _, _, _ => none
 | k + 1, x1, x2, x3, x27, x201000, x201001 => if x27 = true then (some (x201000, x201001, 4)) else (if x201001.length < 2932031007402 then ((slices_SortFunc_Item.f (x201001 ++ [(⟨x1, x2, wrap64 (x201000 + 1), x3⟩ : S33)])).bind fun t207 => ((impl_cloneCat.f (wrap64 (x201000 + 1)) t207).bind fun bt208 => (some (bt208.1, bt208.2, 0)))) else (none))
def impl_Cat_put.f (k : Nat) (a0_0 : Int) (l0_1 : List (S33)) (a1 : Int) (a2 : ByteArray) (a3 : ByteArray) : Option (Int × (List (S33)) × Int) := (impl_cloneCat.f a0_0 l0_1).bind fun bt196 => ((impl_publishable.f k a1 a2 a3).bind fun t201 => (if t201 = true then ((impl_Cat_find.f a0_0 l0_1 a1 a2).bind fun t202 => (if t202 ≥ 0 then (some (bt196.1, bt196.2, 2)) else (if (l0_1.length : Int) = 8 then (impl_Cat_put.j0 k a1 a2 a3 true bt196.1 bt196.2) else (if a0_0 = 99999 then (impl_Cat_put.j0 k a1 a2 a3 true bt196.1 bt196.2) else ((impl_Cat_bytes.f k a0_0 l0_1 a1).bind fun t203 => (impl_Cat_put.j0 k a1 a2 a3 (decide ((wrap64 (t203 + (a3.size : Int))) > 500)) bt196.1 bt196.2)))))) else (some (bt196.1, bt196.2, 1))))
theorem impl_Cat_put.mono_l : ∀ k, (∀ y0 y1 y2 y3 y4 y5, LeO (impl_Cat_put.j0 k y0 y1 y2 y3 y4 y5) (impl_Cat_put.j0 (k + 1) y0 y1 y2 y3 y4 y5))
 | 0 => fun _ _ _ _ _ _ r h => by simp [impl_Cat_put.j0] at h
 | k + 1 => by
  have ih0 := impl_Cat_put.mono_l k;intro y0 y1 y2 y3 y4 y5;unfold impl_Cat_put.j0
  repeat' first
  | (with_reducible exact ih0 _ _ _ _ _ _)
  | (with_reducible exact impl_Cat_bytes.mono _ _ _ _)
  | (with_reducible exact impl_publishable.mono _ _ _ _)
  | (with_reducible exact LeO.refl _)
  | (with_reducible exact LeO.none _)
  | (with_reducible refine LeO.ite ?_ ?_)
  | (with_reducible refine LeO.bind ?_ (fun _ => ?_))
  | exact LeO.none _
  | refine LeO.ite ?_ ?_
  | refine LeO.bind ?_ (fun _ => ?_)
theorem impl_Cat_put.mono : ∀ a0 a1 a2 a3 a4 k, LeO (impl_Cat_put.f k a0 a1 a2 a3 a4) (impl_Cat_put.f (k + 1) a0 a1 a2 a3 a4) := by
 intro a0 a1 a2 a3 a4 k;have ih0 := impl_Cat_put.mono_l k;unfold impl_Cat_put.f
 repeat' first
   | (with_reducible exact ih0 _ _ _ _ _ _)
   | (with_reducible exact impl_Cat_bytes.mono _ _ _ _)
   | (with_reducible exact impl_publishable.mono _ _ _ _)
   | (with_reducible exact LeO.refl _)
   | (with_reducible exact LeO.none _)
   | (with_reducible refine LeO.ite ?_ ?_)
   | (with_reducible refine LeO.bind ?_ (fun _ => ?_))
   | exact LeO.none _
   | refine LeO.ite ?_ ?_
   | refine LeO.bind ?_ (fun _ => ?_)
set_option maxHeartbeats 8000000 in
set_option maxRecDepth 100000 in
theorem impl_Cat_put.calls (k : Nat) (a0_0 : Int) (A0_1 : Option Addr) (c0_1 : Nat) (l0_1 : List (S33)) (a1 : Int) (a2 : ByteArray) (a3 : ByteArray) (r1 : Int) (r2 : List (S33)) (r3 : Int) (w : World) (hr0_1 : Kd.C k33 w A0_1 l0_1.length l0_1) (hc0_1 : l0_1.length ≤ c0_1) (h : impl_Cat_put.f k a0_0 l0_1 a1 a2 a3 = some (r1, r2, r3)) :
  Calls Tryd.prog 28 #[.agg #[.int .i64 a0_0, .slice A0_1 l0_1.length c0_1], .int .i64 a1, .string a2, .string a3] w fun e w' => ∃ v1_ : Value, e = .returned (.tuple #[.agg #[.int .i64 r1, v1_], .int .i64 r3]) ∧ Kd.R k33 33 w' w.heap.size (fun _ => True) v1_ r2 ∧ Below w.heap.size w w' := by
 have hu28 := Tryd.underlying28;have hu33 := Tryd.underlying33;have HR0_1 := Aside0.mk hr0_1;have HC0_1 := Aside0.mk hc0_1;clear hr0_1 hc0_1;have HB := Aside0.mk (Below.refl w.heap.size w);have H : ((impl_cloneCat.f a0_0 l0_1).bind fun bt196 => ((impl_publishable.f k a1 a2 a3).bind fun t201 => (if t201 = true then ((impl_Cat_find.f a0_0 l0_1 a1 a2).bind fun t202 => (if t202 ≥ 0 then (some (bt196.1, bt196.2, 2)) else (if (l0_1.length : Int) = 8 then (impl_Cat_put.j0 k a1 a2 a3 true bt196.1 bt196.2) else (if a0_0 = 99999 then (impl_Cat_put.j0 k a1 a2 a3 true bt196.1 bt196.2) else ((impl_Cat_bytes.f k a0_0 l0_1 a1).bind fun t203 => (impl_Cat_put.j0 k a1 a2 a3 (decide ((wrap64 (t203 + (a3.size : Int))) > 500)) bt196.1 bt196.2)))))) else (some (bt196.1, bt196.2, 1))))) = some (r1, r2, r3) := h;clear h;replace H := Option.bind_eq_some_iff.mp H;obtain ⟨⟨t196, t197⟩, A50, H⟩ := H;replace H : ((impl_publishable.f k a1 a2 a3).bind fun t201 => (if t201 = true then ((impl_Cat_find.f a0_0 l0_1 a1 a2).bind fun t202 => (if t202 ≥ 0 then (some (t196, t197, 2)) else (if (l0_1.length : Int) = 8 then (impl_Cat_put.j0 k a1 a2 a3 true t196 t197) else (if a0_0 = 99999 then (impl_Cat_put.j0 k a1 a2 a3 true t196 t197) else ((impl_Cat_bytes.f k a0_0 l0_1 a1).bind fun t203 => (impl_Cat_put.j0 k a1 a2 a3 (decide ((wrap64 (t203 + (a3.size : Int))) > 500)) t196 t197)))))) else (some (t196, t197, 1)))) = some (r1, r2, r3) := H;have A5 := Aside0.mk A50;clear A50;replace H := Option.bind_eq_some_iff.mp H;obtain ⟨t201, A60, H⟩ := H;have A6 := Aside0.mk A60;clear A60
 by_cases c7 : t201 = true
 ·subst c7;rw [if_pos rfl] at H;replace H := Option.bind_eq_some_iff.mp H;obtain ⟨t202, A80, H⟩ := H;have A8 := Aside0.mk A80;clear A80
  by_cases c9 : t202 ≥ 0
  ·rw [if_pos c9] at H;have c9b0 : decide (0 ≤ t202) = true := decide_eq_true c9;clear c9;simp only [Option.some.injEq, Prod.mk.injEq] at H;obtain ⟨rfl, rfl, rfl⟩ := H
   go_enter Tryd.func28, Tryd.ntmps28
   go_wp2_with (first | ((with_reducible refine gate_dst (N := 4) rfl ?_); (try (refine gate_guard (by rfl) ?_; dsimp only)); refine bv 4 #[.int .i64 a0_0, .slice A0_1 l0_1.length c0_1] 28 ?_; intro gb194 hg w10 hbox hb; have BK194 := Aside0.mk (hbox); have GW194 := gw HB hg; have GE194 := gw HB hg; replace HB := hbb HB hb; clear hb hbox hg) | ((with_reducible refine gate_dst (N := 8) rfl ?_); (try (refine gate_guard (by rfl) ?_; dsimp only)); refine bv 8 #[.int .i64 0, .slice none 0 0] 28 ?_; intro gb195 hg w11 hbox hb; have BK195 := Aside0.mk (hbox); have GW195 := gw HB hg; have GE195 := gw HB hg; have NB194_195 := nl BK194 hg; have NB195_194 := ng BK194 hg; replace BK194 := kb BK194 hb; replace HB := hbb HB hb; clear hb hbox hg; have hnb12 := NB194_195.out; have hnc12 := NB195_194.out; obtain ⟨hcz13_0, hcz13_1, hfz13_0, hfz13_1⟩ := c2 BK194) | ((with_reducible refine gate_callee (f := 38) rfl ?_); refine gL 12 Tryd.func38 #[.agg #[.int .i64 a0_0, .slice A0_1 l0_1.length c0_1]] ?_; (with_reducible refine (impl_cloneCat.calls a0_0 _ _ l0_1 t196 t197 _ ?side1 ?side2 A5.out).mono ?_); (case side1 => repeat (first | exact (Kd.C_below HR0_1.out HB.out) | (with_reducible refine Kd.C_alloc ?_ _) | (with_reducible refine Kd.C_drewN ?_ _) | (with_reducible refine Kd.C_drew ?_))); (case side2 => exact HC0_1.out); rintro e w14 ⟨v198, rfl, ho0, hb⟩; refine ⟨_, rfl, ?_⟩; have HO199 := Aside0.mk (Kd.R_lower ho0 (below_size (by exact bb HB.out))); replace BK194 := kb BK194 hb; replace BK195 := kb BK195 hb; replace HB := hbb HB hb; (try clear hb); (try clear hb2); (try clear hk); (try clear hi); (try clear ho0)) | ((with_reducible refine gate_dst (N := 10) rfl ?_); (try (refine gate_guard (by rfl) ?_; dsimp only)); refine bv 10 #[.int .i64 0, .slice none 0 0] 28 ?_; intro gb200 hg w15 hbox hb; have BK200 := Aside0.mk (hbox); have GW200 := gw HB hg; have GE200 := gw HB hg; have NB194_200 := nl BK194 hg; have NB200_194 := ng BK194 hg; have NB195_200 := nl BK195 hg; have NB200_195 := ng BK195 hg; replace HO199 := Kd.rR HO199 hb; replace BK194 := kb BK194 hb; replace BK195 := kb BK195 hb; replace HB := hbb HB hb; clear hb hbox hg; have hnb16 := NB200_194.out; have hnc16 := NB194_200.out; have hnb17 := NB200_195.out; have hnc17 := NB195_200.out; obtain ⟨hcz18_0, hcz18_1, hfz18_0, hfz18_1⟩ := c2 BK200; obtain ⟨Ao19, co19, eo19⟩ := Kd.R_slice HO199.out; subst eo19) | ((with_reducible refine gate_callee (f := 31) rfl ?_); refine gL 17 Tryd.func31 #[.int .i64 a1, .string a2, .string a3] ?_; (with_reducible refine (impl_publishable.calls k a1 a2 a3 true _ A6.out).mono ?_); rintro e w' ⟨rfl, ⟨nd, rfl⟩⟩; refine ⟨_, rfl, ?_⟩; obtain ⟨hcz20_0, hcz20_1, hfz20_0, hfz20_1⟩ := c2 BK194) | ((with_reducible refine gate_callee (f := 19) rfl ?_); refine gL 24 Tryd.func19 #[.agg #[.int .i64 a0_0, .slice A0_1 l0_1.length c0_1], .int .i64 a1, .string a2] ?_; (with_reducible refine (impl_Cat_find.calls a0_0 _ _ l0_1 a1 a2 t202 _ ?side1 ?side2 A8.out).mono ?_); (case side1 => exact Kd.C_below HR0_1.out (by exact bbx (a := gb200) HB.out GE200.out)); (case side2 => exact HC0_1.out); rintro e w21 ⟨rfl, hb⟩; refine ⟨_, rfl, ?_⟩; replace HO199 := Aside0.mk (Kd.R_below (by exact (Kd.R_mono (Kd.R_lax (g := gb200) (Kd.R_types HO199.out BK200.out (by decide)) (fun _ hk => hk.2)) (fun _ h_ => h_.1))) hb); replace BK194 := kbx (a := gb200) BK194 NB194_200 hb; replace BK195 := kbx (a := gb200) BK195 NB195_200 hb; replace BK200 := Aside0.mk (blk_below (o := .cells #[.int .i64 t196, .slice Ao19 t197.length co19] 28 (0, 0)) (bp BK200.out (by rfl)) hb); replace HB := hbx (a := gb200) HB GE200 hb; (try clear hb); (try clear hb2); (try clear hk); (try clear hi); obtain ⟨hcz22_0, hcz22_1, hfz22_0, hfz22_1⟩ := c2 BK200; obtain ⟨hcz23_0, hcz23_1, hfz23_0, hfz23_1⟩ := c2 BK195));refine bodyPost_ret (results_ct rfl _ _ gb195 28 #[.int .i64 t196, .slice Ao19 t197.length co19] (0, 0) _ rfl (bp BK195.out (by rfl)) Tryd.underlying28 rfl (by kernel_rfl)) rfl ?_;exact ⟨_, by first | rfl | (simp [errW_none, errW_some] <;> rfl) | (simp [*, errW_none, errW_some] <;> rfl), by exact Kd.R_mono (Kd.R_lax (g := gb195) (Kd.R_types HO199.out BK195.out (by decide)) (fun _ hk => hk.2)) (fun _ hk => trivial), by exact bbx (a := gb195) HB.out GE195.out⟩
  ·rw [if_neg c9] at H;have c9b0 : decide (0 ≤ t202) = false := decide_eq_false c9;clear c9;have HC24 := Aside0.mk H;clear H
   go_enter Tryd.func28, Tryd.ntmps28
   go_upto_region 6 with (first | ((with_reducible refine gate_dst (N := 4) rfl ?_); (try (refine gate_guard (by rfl) ?_; dsimp only)); refine bv 4 #[.int .i64 a0_0, .slice A0_1 l0_1.length c0_1] 28 ?_; intro gb194 hg w25 hbox hb; have BK194 := Aside0.mk (hbox); have GW194 := gw HB hg; have GE194 := gw HB hg; replace HB := hbb HB hb; clear hb hbox hg) | ((with_reducible refine gate_dst (N := 8) rfl ?_); (try (refine gate_guard (by rfl) ?_; dsimp only)); refine bv 8 #[.int .i64 0, .slice none 0 0] 28 ?_; intro gb195 hg w26 hbox hb; have BK195 := Aside0.mk (hbox); have GW195 := gw HB hg; have GE195 := gw HB hg; have NB194_195 := nl BK194 hg; have NB195_194 := ng BK194 hg; replace BK194 := kb BK194 hb; replace HB := hbb HB hb; clear hb hbox hg; have hnb27 := NB194_195.out; have hnc27 := NB195_194.out; obtain ⟨hcz28_0, hcz28_1, hfz28_0, hfz28_1⟩ := c2 BK194) | ((with_reducible refine gate_callee (f := 38) rfl ?_); refine gL 12 Tryd.func38 #[.agg #[.int .i64 a0_0, .slice A0_1 l0_1.length c0_1]] ?_; (with_reducible refine (impl_cloneCat.calls a0_0 _ _ l0_1 t196 t197 _ ?side1 ?side2 A5.out).mono ?_); (case side1 => repeat (first | exact (Kd.C_below HR0_1.out HB.out) | (with_reducible refine Kd.C_alloc ?_ _) | (with_reducible refine Kd.C_drewN ?_ _) | (with_reducible refine Kd.C_drew ?_))); (case side2 => exact HC0_1.out); rintro e w29 ⟨v198, rfl, ho0, hb⟩; refine ⟨_, rfl, ?_⟩; have HO199 := Aside0.mk (Kd.R_lower ho0 (below_size (by exact bb HB.out))); replace BK194 := kb BK194 hb; replace BK195 := kb BK195 hb; replace HB := hbb HB hb; (try clear hb); (try clear hb2); (try clear hk); (try clear hi); (try clear ho0)) | ((with_reducible refine gate_dst (N := 10) rfl ?_); (try (refine gate_guard (by rfl) ?_; dsimp only)); refine bv 10 #[.int .i64 0, .slice none 0 0] 28 ?_; intro gb200 hg w30 hbox hb; have BK200 := Aside0.mk (hbox); have GW200 := gw HB hg; have GE200 := gw HB hg; have NB194_200 := nl BK194 hg; have NB200_194 := ng BK194 hg; have NB195_200 := nl BK195 hg; have NB200_195 := ng BK195 hg; replace HO199 := Kd.rR HO199 hb; replace BK194 := kb BK194 hb; replace BK195 := kb BK195 hb; replace HB := hbb HB hb; clear hb hbox hg; have hnb31 := NB200_194.out; have hnc31 := NB194_200.out; have hnb32 := NB200_195.out; have hnc32 := NB195_200.out; obtain ⟨hcz33_0, hcz33_1, hfz33_0, hfz33_1⟩ := c2 BK200; obtain ⟨Ao34, co34, eo34⟩ := Kd.R_slice HO199.out; subst eo34) | ((with_reducible refine gate_callee (f := 31) rfl ?_); refine gL 17 Tryd.func31 #[.int .i64 a1, .string a2, .string a3] ?_; (with_reducible refine (impl_publishable.calls k a1 a2 a3 true _ A6.out).mono ?_); rintro e w' ⟨rfl, ⟨nd, rfl⟩⟩; refine ⟨_, rfl, ?_⟩; obtain ⟨hcz35_0, hcz35_1, hfz35_0, hfz35_1⟩ := c2 BK194) | ((with_reducible refine gate_callee (f := 19) rfl ?_); refine gL 24 Tryd.func19 #[.agg #[.int .i64 a0_0, .slice A0_1 l0_1.length c0_1], .int .i64 a1, .string a2] ?_; (with_reducible refine (impl_Cat_find.calls a0_0 _ _ l0_1 a1 a2 t202 _ ?side1 ?side2 A8.out).mono ?_); (case side1 => exact Kd.C_below HR0_1.out (by exact bbx (a := gb200) HB.out GE200.out)); (case side2 => exact HC0_1.out); rintro e w36 ⟨rfl, hb⟩; refine ⟨_, rfl, ?_⟩; replace HO199 := Aside0.mk (Kd.R_below (by exact (Kd.R_mono (Kd.R_lax (g := gb200) (Kd.R_types HO199.out BK200.out (by decide)) (fun _ hk => hk.2)) (fun _ h_ => h_.1))) hb); replace BK194 := kbx (a := gb200) BK194 NB194_200 hb; replace BK195 := kbx (a := gb200) BK195 NB195_200 hb; replace BK200 := Aside0.mk (blk_below (o := .cells #[.int .i64 t196, .slice Ao34 t197.length co34] 28 (0, 0)) (bp BK200.out (by rfl)) hb); replace HB := hbx (a := gb200) HB GE200 hb; (try clear hb); (try clear hb2); (try clear hk); (try clear hi)))
   (try simp only [Act.put, sB, s0, s1])
   go_cut [27] (fun v27 wc => ∃ (kq : Nat) (x27_23 : Bool), v27 = .bool x27_23 ∧ Aside0 (impl_Cat_put.j0 kq a1 a2 a3 x27_23 t196 t197 = some (r1, r2, r3)) ∧ Aside0 (kq ≤ k) ∧ Aside0 (Kd.R k33 33 wc w.heap.size (fun _ => True) (.slice Ao34 t197.length co34) t197) ∧ Aside0 (wc.heap[gb194]? = some (.cells #[.int .i64 a0_0, (.slice A0_1 l0_1.length c0_1)] 28 (0, 0))) ∧ Aside0 (wc.heap[gb195]? = some (.cells #[.int .i64 0, (.slice none 0 0)] 28 (0, 0))) ∧ Aside0 (wc.heap[gb200]? = some (.cells #[.int .i64 t196, (.slice Ao34 t197.length co34)] 28 (0, 0))) ∧ Aside0 (Below w.heap.size w wc))
   case first =>
    have H := HC24.out;clear HC24
    by_cases c37 : (l0_1.length : Int) = 8
    ·rw [if_pos c37] at H;have c37b0 : ((l0_1.length : Int) == 8) = true := beq_iff_eq.mpr c37;have c37b1 : ((l0_1.length : Int) != 8) = false := bne_eq_false_iff_eq.mpr c37;clear c37;(first | rw [c37b0] | (simp only [i64_w, i32_w]; rw [c37b0]) | skip);have H' := Aside0.mk H;clear H;have hnb38 := NB194_195.out;have hnc38 := NB195_194.out;have hnb39 := NB194_200.out;have hnc39 := NB200_194.out;obtain ⟨hcz40_0, hcz40_1, hfz40_0, hfz40_1⟩ := c2 BK194;go_wp2
     go_meet
     case rel => exact ⟨_, (true), rs, H', ⟨by first | omega | exact Nat.le_refl _⟩, ⟨by exact Kd.R_lat (HO199.out)⟩, ⟨bl BK194.out⟩, ⟨bl BK195.out⟩, ⟨bl BK200.out⟩, ⟨by exact bb HB.out⟩⟩
    ·rw [if_neg c37] at H;have c37b0 : ((l0_1.length : Int) == 8) = false := beq_eq_false_iff_ne.mpr c37;have c37b1 : ((l0_1.length : Int) != 8) = true := bne_iff_ne.mpr c37;(first | rw [c37b0] | (simp only [i64_w, i32_w]; rw [c37b0]) | skip)
     by_cases c41 : a0_0 = 99999
     ·rw [if_pos c41] at H;have c41b0 : (a0_0 == 99999) = true := beq_iff_eq.mpr c41;have c41b1 : (a0_0 != 99999) = false := bne_eq_false_iff_eq.mpr c41;clear c41;have H' := Aside0.mk H;clear H;have hnb42 := NB194_195.out;have hnc42 := NB195_194.out;have hnb43 := NB194_200.out;have hnc43 := NB200_194.out;obtain ⟨hcz44_0, hcz44_1, hfz44_0, hfz44_1⟩ := c2 BK194;go_wp2
      go_meet
      case rel => exact ⟨_, (true), rs, H', ⟨by first | omega | exact Nat.le_refl _⟩, ⟨by exact Kd.R_lat (HO199.out)⟩, ⟨bl BK194.out⟩, ⟨bl BK195.out⟩, ⟨bl BK200.out⟩, ⟨by exact bb HB.out⟩⟩
     ·rw [if_neg c41] at H;have c41b0 : (a0_0 == 99999) = false := beq_eq_false_iff_ne.mpr c41;have c41b1 : (a0_0 != 99999) = true := bne_iff_ne.mpr c41;replace H := Option.bind_eq_some_iff.mp H;obtain ⟨t203, A450, H⟩ := H;have A45 := Aside0.mk A450;clear A450;have H' := Aside0.mk H;clear H;have hnb46 := NB194_195.out;have hnc46 := NB195_194.out;have hnb47 := NB194_200.out;have hnc47 := NB200_194.out;obtain ⟨hcz48_0, hcz48_1, hfz48_0, hfz48_1⟩ := c2 BK194;go_wp2_with (first | (go_at_call 34; (with_reducible refine (impl_Cat_bytes.calls k a0_0 _ _ l0_1 a1 t203 _ ?side1 ?side2 A45.out).mono ?_); (case side1 => repeat (first | exact (Kd.C_below HR0_1.out HB.out) | (with_reducible refine Kd.C_alloc ?_ _) | (with_reducible refine Kd.C_drewN ?_ _) | (with_reducible refine Kd.C_drew ?_))); (case side2 => exact HC0_1.out); rintro e w49 ⟨rfl, hb⟩; replace HO199 := Kd.rR HO199 hb; replace BK194 := kb BK194 hb; replace BK195 := kb BK195 hb; replace BK200 := kb BK200 hb; replace HB := hbb HB hb; (try clear hb); (try clear hb2); (try clear hk); (try clear hi)))
      go_meet
      case rel => exact ⟨_, (decide ((wrap64 (t203 + (a3.size : Int))) > 500)), rs, H', ⟨by first | omega | exact Nat.le_refl _⟩, ⟨by exact Kd.R_lat (HO199.out)⟩, ⟨bl BK194.out⟩, ⟨bl BK195.out⟩, ⟨bl BK200.out⟩, ⟨by exact bb HB.out⟩⟩
   case rest =>
    clear HC24;try clear c1
    try clear c2
    try clear p2
    try clear c3
    try clear c4
    try clear p6
    try clear c7
    try clear c9
    try clear c9b0
    try clear c12
    try clear c16
    try clear c17
    try clear c19
    try clear c27
    try clear c28
    try clear c31
    try clear c32
    try clear c37
    try clear c37b0
    try clear c37b1
    try clear c38
    try clear c39
    try clear c41
    try clear c41b0
    try clear c41b1
    try clear c42
    try clear c43
    try clear c46
    try clear c47
    try clear hcz13_0
    try clear hcz13_1
    try clear hcz18_0
    try clear hcz18_1
    try clear hcz20_0
    try clear hcz20_1
    try clear hcz22_0
    try clear hcz22_1
    try clear hcz23_0
    try clear hcz23_1
    try clear hcz28_0
    try clear hcz28_1
    try clear hcz33_0
    try clear hcz33_1
    try clear hcz35_0
    try clear hcz35_1
    try clear hcz40_0
    try clear hcz40_1
    try clear hcz44_0
    try clear hcz44_1
    try clear hcz48_0
    try clear hcz48_1
    try clear hfz13_0
    try clear hfz13_1
    try clear hfz18_0
    try clear hfz18_1
    try clear hfz20_0
    try clear hfz20_1
    try clear hfz22_0
    try clear hfz22_1
    try clear hfz23_0
    try clear hfz23_1
    try clear hfz28_0
    try clear hfz28_1
    try clear hfz33_0
    try clear hfz33_1
    try clear hfz35_0
    try clear hfz35_1
    try clear hfz40_0
    try clear hfz40_1
    try clear hfz44_0
    try clear hfz44_1
    try clear hfz48_0
    try clear hfz48_1
    obtain ⟨kq, x27_23, rfl, HA, HJ23, HO_201001, BK194, BK195, BK200, HB⟩ := hcut
    cases kq with
    | zero => exact absurd HA.out (by simp [impl_Cat_put.j0])
    | succ kj23 =>
     have H := HA.out;clear HA;simp only [impl_Cat_put.j0] at H
     by_cases c50 : x27_23 = true
     ·subst c50;rw [if_pos rfl] at H;simp only [Option.some.injEq, Prod.mk.injEq] at H;obtain ⟨rfl, rfl, rfl⟩ := H;have hnb51 := NB200_194.out;have hnc51 := NB194_200.out;have hnb52 := NB200_195.out;have hnc52 := NB195_200.out;obtain ⟨hcz53_0, hcz53_1, hfz53_0, hfz53_1⟩ := c2 BK200;have hnb54 := NB195_194.out;have hnc54 := NB194_195.out;obtain ⟨hcz55_0, hcz55_1, hfz55_0, hfz55_1⟩ := c2 BK195;go_wp2;refine bodyPost_ret (results_ct rfl _ _ gb195 28 #[.int .i64 t196, .slice Ao34 t197.length co34] (0, 0) _ rfl (bp BK195.out (by rfl)) Tryd.underlying28 rfl (by kernel_rfl)) rfl ?_;exact ⟨_, by first | rfl | (simp [errW_none, errW_some] <;> rfl) | (simp [*, errW_none, errW_some] <;> rfl), by exact Kd.R_mono (Kd.R_lax (g := gb195) (Kd.R_types HO_201001.out BK195.out (by decide)) (fun _ hk => hk.2)) (fun _ hk => trivial), by exact bbx (a := gb195) HB.out GE195.out⟩
     ·replace c50 := Bool.eq_false_iff.mpr c50;subst c50;rw [if_neg (show ¬ (false = true) by decide)] at H
      by_cases c56 : t197.length < 2932031007402
      ·rw [if_pos c56] at H;have LMc56 := Aside0.mk c56;clear c56;obtain ⟨y204, hy204⟩ : ∃ y_ : List (S33), y_ = (t197 ++ [(⟨a1, a2, wrap64 (t196 + 1), a3⟩ : S33)]) := ⟨_, rfl⟩;replace H : ((slices_SortFunc_Item.f y204).bind fun t207 => ((impl_cloneCat.f (wrap64 (t196 + 1)) t207).bind fun bt208 => (some (bt208.1, bt208.2, 0)))) = some (r1, r2, r3) := by first | (rw [hy204]; with_reducible exact H) | (have H2_ := (Option.bind_some _ _).symm.trans H; rw [hy204]; with_reducible exact H2_) | (have H2_ := (Option.bind_some _ _).symm.trans H; with_reducible exact H2_) | with_reducible exact H | (rw [hy204]; exact H) | exact H
       have Ny204 := Aside0.mk hy204;clear hy204;replace H := Option.bind_eq_some_iff.mp H;obtain ⟨t207, A570, H⟩ := H;have A57 := Aside0.mk A570;clear A570;replace H := Option.bind_eq_some_iff.mp H;obtain ⟨⟨t208, t209⟩, A580, H⟩ := H;replace H : (some (t208, t209, 0)) = some (r1, r2, r3) := H;have A58 := Aside0.mk A580;clear A580;simp only [Option.some.injEq, Prod.mk.injEq] at H;obtain ⟨rfl, rfl, rfl⟩ := H;have hnb59 := NB200_194.out;have hnc59 := NB194_200.out;have hnb60 := NB200_195.out;have hnc60 := NB195_200.out;obtain ⟨hcz61_0, hcz61_1, hfz61_0, hfz61_1⟩ := c2 BK200;go_wp2_with (first | ((with_reducible refine gate_builtin (b := .append) (xs := #[.tmp 52, .tmp 59]) rfl ?_); (try (refine gate_guard (by rfl) ?_; dsimp only)); at_builtin; refine Kd.R_append k33 (w0 := w) w.heap.size rfl (.tmp 52) (.tmp 59) 26 33 (.agg #[(.int .i64 0), (.string ⟨#[]⟩), (.int .i64 0), (.string ⟨#[]⟩)]) 48 rfl Tryd.underlying26 info33 rfl (by decide) (by omega) (.slice Ao34 t197.length co34) t197 (⟨a1, a2, wrap64 (t196 + 1), a3⟩ : S33) [.int .i64 a1, .string a2, .int .i64 (wrap64 (t196 + 1)), .string a3] (fun _ => True) (fun _ => False) rfl (by first | (go_simp; done) | (go_simp; rfl)) ?aP (fun _ hk => hk.elim) ?aF ?aO ?aB ?aS ?aL ?_; (case aP => exact k33_mkM _ _ _ (⟨a1, a2, wrap64 (t196 + 1), a3⟩ : S33)); (case aB => exact (by exact bbx (a := gb200) HB.out GE200.out)); (case aF => exact (fun _ _ => trivial)); (case aO => exact (by exact Kd.R_mono (Kd.R_lax (g := gb200) (Kd.R_types HO_201001.out BK200.out (by decide)) (fun _ hk => hk.2)) (fun _ hk => trivial))); (case aS => exact (below_size (by exact bbx (a := gb200) HB.out GE200.out))); (case aL => have := LMc56.out; omega); intro v205 w62 ho hb hg hat; rw [← Ny204.out] at ho; have HO206 := Aside0.mk (ho); replace BK194 := Aside0.mk (blk_grown (g := gb194) (o := .cells #[.int .i64 a0_0, .slice A0_1 l0_1.length c0_1] 28 (0, 0)) (bx (a := gb200) BK194.out NB194_200.out) hg (Kd.R_ne HO_201001.out BK194.out (by decide))); replace BK195 := Aside0.mk (blk_grown (g := gb195) (o := .cells #[.int .i64 0, .slice none 0 0] 28 (0, 0)) (bx (a := gb200) BK195.out NB195_200.out) hg (Kd.R_ne HO_201001.out BK195.out (by decide))); replace BK200 := Aside0.mk (blk_grown (g := gb200) (o := .cells #[.int .i64 (wrap64 (t196 + 1)), .slice Ao34 t197.length co34] 28 (0, 0)) (bp BK200.out (by rfl)) hg (Kd.R_ne HO_201001.out BK200.out (by decide))); replace HB := Aside0.mk (hb); clear HO_201001; clear ho hb hg hat; obtain ⟨Ao63, co63, eo63⟩ := Kd.R_slice HO206.out; subst eo63; obtain ⟨hcz64_0, hcz64_1, hfz64_0, hfz64_1⟩ := c2 BK200) | ((with_reducible refine gate_store (t := 26) (p := 61) rfl ?_); refine store_event (t := 26) (p := 61) (v := ?vo_w65) (w1 := (w62.setCell ⟨gb200, 1, none⟩ (.slice Ao63 y204.length co63))) ?hg ?ho ?hn ?hr ?_; (case ho => rfl); (case hg => rfl); (case hn => rfl); (case hr => first | (go_simp; done) | (go_simp; rfl)); intro w65 hw; have n0_ : Aside0 (Kd.R k33 33 w65 w.heap.size (fun _ => True) (.slice Ao63 y204.length co63) y204) := ⟨(by rw [hw]; exact (by exact Kd.R_mono (Kd.R_lax (g := gb200) (Kd.R_types HO206.out BK200.out (by decide)) (fun _ hk => hk.2)) (fun _ hk => trivial)))⟩; have n1_ : Aside0 (w65.heap[gb194]? = some (.cells #[.int .i64 a0_0, .slice A0_1 l0_1.length c0_1] 28 (0, 0))) := ⟨(by rw [hw]; exact (bx (a := gb200) BK194.out NB194_200.out))⟩; have n2_ : Aside0 (w65.heap[gb195]? = some (.cells #[.int .i64 0, .slice none 0 0] 28 (0, 0))) := ⟨(by rw [hw]; exact (bx (a := gb200) BK195.out NB195_200.out))⟩; have n3_ : Aside0 (w65.heap[gb200]? = some (.cells #[.int .i64 (wrap64 (t196 + 1)), .slice Ao63 y204.length co63] 28 (0, 0))) := ⟨(by rw [hw]; exact (bp BK200.out (by rfl)))⟩; have n4_ : Aside0 (Below w.heap.size w w65) := ⟨(by rw [hw]; exact (by exact bbx (a := gb200) HB.out GE200.out))⟩; clear hw; clear HO206; clear BK194; clear BK195; clear BK200; clear HB; have HO206 := n0_; have BK194 := n1_; have BK195 := n2_; have BK200 := n3_; have HB := n4_; clear n0_ n1_ n2_ n3_ n4_; obtain ⟨hcz66_0, hcz66_1, hfz66_0, hfz66_1⟩ := c2 BK200) | ((with_reducible refine gate_callee (f := 40) rfl ?_); refine gL 64 Tryd.func40 #[.slice Ao63 y204.length co63, .func (.func 33) #[] #[]] ?_; (with_reducible refine (slices_SortFunc_Item.calls (fun k_ => some k_ = (.slice Ao63 y204.length co63 : Value).ownBlock) (.slice Ao63 y204.length co63) y204 t207 w _ ?side1 ?side2 A57.out).mono ?_); (case side1 => exact bb HB.out); (case side2 => exact Kd.R_tight rfl HO206.out); rintro e w67 ⟨rfl, hy0, hb, hkp⟩; refine ⟨_, rfl, ?_⟩; replace BK194 := Aside0.mk (blk_kept (bl BK194.out) hkp (fun hs_ => (fun e_ => (Kd.R_ne HO206.out BK194.out (by decide)) e_) hs_)); replace BK195 := Aside0.mk (blk_kept (bl BK195.out) hkp (fun hs_ => (fun e_ => (Kd.R_ne HO206.out BK195.out (by decide)) e_) hs_)); replace BK200 := Aside0.mk (blk_kept (bl BK200.out) hkp (fun hs_ => (fun e_ => (Kd.R_ne HO206.out BK200.out (by decide)) e_) hs_)); replace HO206 := Aside0.mk (Kd.R_reok rfl hy0 (fun k_ e_ => HO206.out.1 k_ e_)); replace HB := Aside0.mk (hb); (try clear hb); (try clear hkp); (try clear hy0); obtain ⟨hcz68_0, hcz68_1, hfz68_0, hfz68_1⟩ := c2 BK200) | ((with_reducible refine gate_callee (f := 38) rfl ?_); refine goesL_ (some 66) rfl rfl Tryd.func38 (by kernel_rfl) rfl #[.agg #[.int .i64 (wrap64 (t196 + 1)), .slice Ao63 t207.length co63]] rfl (by (try simp only [List.map_toArray, List.map_cons, List.map_nil]); first | done | (rw [show t207.length = y204.length from (Kd.R_reads' HO206.out).1.symm] <;> rfl) | rfl | (simp only [List.length_drop, List.length_take]; rfl)) ?_; (with_reducible refine (impl_cloneCat.calls (wrap64 (t196 + 1)) _ _ t207 t208 t209 _ ?side1 ?side2 A58.out).mono ?_); (case side1 => exact Kd.cR HO206); (case side2 => rw [show t207.length = y204.length from (Kd.R_reads' HO206.out).1.symm]; exact (Kd.R_reads' HO206.out).2.1); rintro e w69 ⟨v210, rfl, ho0, hb⟩; refine ⟨_, rfl, ?_⟩; have HO211 := Aside0.mk (Kd.R_lower (Kd.R_new' ho0 (Kd.R_lt (by exact rl HO206))) (below_size (by exact bb HB.out))); replace HO206 := Aside0.mk (Kd.R_elder' (by exact rl HO206) (Kd.R_base ho0) hb); replace BK194 := kb BK194 hb; replace BK195 := kb BK195 hb; replace BK200 := kb BK200 hb; replace HB := hbb HB hb; (try clear hb); (try clear hb2); (try clear hk); (try clear hi); (try clear ho0); have hnb70 := NB195_194.out; have hnc70 := NB194_195.out; obtain ⟨hcz71_0, hcz71_1, hfz71_0, hfz71_1⟩ := c2 BK195; obtain ⟨Ao72, co72, eo72⟩ := Kd.R_slice HO211.out; subst eo72));refine bodyPost_ret (results_ct rfl _ _ gb195 28 #[.int .i64 t208, .slice Ao72 t209.length co72] (0, 0) _ rfl (bp BK195.out (by rfl)) Tryd.underlying28 rfl (by kernel_rfl)) rfl ?_;exact ⟨_, by first | rfl | (simp [errW_none, errW_some] <;> rfl) | (simp [*, errW_none, errW_some] <;> rfl), by exact Kd.R_mono (Kd.R_lax (g := gb195) (Kd.R_types HO211.out BK195.out (by decide)) (fun _ hk => hk.2)) (fun _ hk => trivial), by exact bbx (a := gb195) HB.out GE195.out⟩
      rw [if_neg c56] at H;exact absurd H (by simp)
 replace c7 := Bool.eq_false_iff.mpr c7;subst c7;rw [if_neg (show ¬ (false = true) by decide)] at H;simp only [Option.some.injEq, Prod.mk.injEq] at H;obtain ⟨rfl, rfl, rfl⟩ := H
 go_enter Tryd.func28, Tryd.ntmps28
 go_wp2_with (first | ((with_reducible refine gate_dst (N := 4) rfl ?_); (try (refine gate_guard (by rfl) ?_; dsimp only)); refine bv 4 #[.int .i64 a0_0, .slice A0_1 l0_1.length c0_1] 28 ?_; intro gb194 hg w73 hbox hb; have BK194 := Aside0.mk (hbox); have GW194 := gw HB hg; have GE194 := gw HB hg; replace HB := hbb HB hb; clear hb hbox hg) | ((with_reducible refine gate_dst (N := 8) rfl ?_); (try (refine gate_guard (by rfl) ?_; dsimp only)); refine bv 8 #[.int .i64 0, .slice none 0 0] 28 ?_; intro gb195 hg w74 hbox hb; have BK195 := Aside0.mk (hbox); have GW195 := gw HB hg; have GE195 := gw HB hg; have NB194_195 := nl BK194 hg; have NB195_194 := ng BK194 hg; replace BK194 := kb BK194 hb; replace HB := hbb HB hb; clear hb hbox hg; have hnb75 := NB194_195.out; have hnc75 := NB195_194.out; obtain ⟨hcz76_0, hcz76_1, hfz76_0, hfz76_1⟩ := c2 BK194) | ((with_reducible refine gate_callee (f := 38) rfl ?_); refine gL 12 Tryd.func38 #[.agg #[.int .i64 a0_0, .slice A0_1 l0_1.length c0_1]] ?_; (with_reducible refine (impl_cloneCat.calls a0_0 _ _ l0_1 t196 t197 _ ?side1 ?side2 A5.out).mono ?_); (case side1 => repeat (first | exact (Kd.C_below HR0_1.out HB.out) | (with_reducible refine Kd.C_alloc ?_ _) | (with_reducible refine Kd.C_drewN ?_ _) | (with_reducible refine Kd.C_drew ?_))); (case side2 => exact HC0_1.out); rintro e w77 ⟨v198, rfl, ho0, hb⟩; refine ⟨_, rfl, ?_⟩; have HO199 := Aside0.mk (Kd.R_lower ho0 (below_size (by exact bb HB.out))); replace BK194 := kb BK194 hb; replace BK195 := kb BK195 hb; replace HB := hbb HB hb; (try clear hb); (try clear hb2); (try clear hk); (try clear hi); (try clear ho0)) | ((with_reducible refine gate_dst (N := 10) rfl ?_); (try (refine gate_guard (by rfl) ?_; dsimp only)); refine bv 10 #[.int .i64 0, .slice none 0 0] 28 ?_; intro gb200 hg w78 hbox hb; have BK200 := Aside0.mk (hbox); have GW200 := gw HB hg; have GE200 := gw HB hg; have NB194_200 := nl BK194 hg; have NB200_194 := ng BK194 hg; have NB195_200 := nl BK195 hg; have NB200_195 := ng BK195 hg; replace HO199 := Kd.rR HO199 hb; replace BK194 := kb BK194 hb; replace BK195 := kb BK195 hb; replace HB := hbb HB hb; clear hb hbox hg; have hnb79 := NB200_194.out; have hnc79 := NB194_200.out; have hnb80 := NB200_195.out; have hnc80 := NB195_200.out; obtain ⟨hcz81_0, hcz81_1, hfz81_0, hfz81_1⟩ := c2 BK200; obtain ⟨Ao82, co82, eo82⟩ := Kd.R_slice HO199.out; subst eo82) | ((with_reducible refine gate_callee (f := 31) rfl ?_); refine gL 17 Tryd.func31 #[.int .i64 a1, .string a2, .string a3] ?_; (with_reducible refine (impl_publishable.calls k a1 a2 a3 false _ A6.out).mono ?_); rintro e w' ⟨rfl, ⟨nd, rfl⟩⟩; refine ⟨_, rfl, ?_⟩; obtain ⟨hcz83_0, hcz83_1, hfz83_0, hfz83_1⟩ := c2 BK195));refine bodyPost_ret (results_ct rfl _ _ gb195 28 #[.int .i64 t196, .slice Ao82 t197.length co82] (0, 0) _ rfl (by (with_reducible repeat (first | refine blk_drewN ?_ _ | refine blk_drew ?_ | refine blk_alloc ?_ _)); refine blk_put (cs := #[.int .i64 t196, .slice none 0 0]) ?_ 1 _ rfl; (with_reducible repeat (first | refine blk_drewN ?_ _ | refine blk_drew ?_ | refine blk_alloc ?_ _)); refine blk_put (cs := #[.int .i64 0, .slice none 0 0]) ?_ 0 _ rfl; (with_reducible repeat (first | refine blk_drewN ?_ _ | refine blk_drew ?_ | refine blk_alloc ?_ _)); refine blk_far ?_ NB195_200.out _; (with_reducible repeat (first | refine blk_drewN ?_ _ | refine blk_drew ?_ | refine blk_alloc ?_ _)); refine blk_far ?_ NB195_200.out _; (with_reducible repeat (first | refine blk_drewN ?_ _ | refine blk_drew ?_ | refine blk_alloc ?_ _)); exact BK195.out) Tryd.underlying28 rfl (by kernel_rfl)) rfl ?_;exact ⟨_, by first | rfl | (simp [errW_none, errW_some] <;> rfl) | (simp [*, errW_none, errW_some] <;> rfl), by (with_reducible repeat (first | apply Kd.R_alloc | apply Kd.R_drewN | apply Kd.R_drew)); exact Kd.R_mono (Kd.R_far (p := ⟨gb195, 1, none⟩) (Kd.R_far (p := ⟨gb195, 0, none⟩) (Kd.R_far (p := ⟨gb200, 1, none⟩) (Kd.R_far (p := ⟨gb200, 0, none⟩) (Kd.R_types (Kd.R_types HO199.out BK200.out (by decide)) BK195.out (by decide)) (fun _ hk => hk.1.2) (.int .i64 t196)) (fun _ hk => hk.1.2) (.slice Ao82 t197.length co82)) (fun _ hk => hk.2) (.int .i64 t196)) (fun _ hk => hk.2) (.slice Ao82 t197.length co82)) (fun _ hk => trivial), by repeat (first | (with_reducible first | exact HB.out | apply below_alloc | apply pw_below_drewN | apply below_drew1 | refine below_set ?_ GE194.out | refine below_set ?_ GE195.out | refine below_set ?_ GE200.out) | exact HB.out)⟩
mutual
def impl_Cat_apply.j0 : Nat → ByteArray → ByteArray → Int → Bool → Int → List (S33) → Option (Int × (List (S33)) × Bool)
 | 0, _, _, _, _, _, _ => none
 | k + 1, x7, x10, x12, x42, x213000, x213001 => if x42 = true then (some (0, ([] : List (S33)), false)) else ((impl_Cat_take.f x213000 x213001 x12 x10).bind fun bt223 => (if x7.toList = ([] : List UInt8) then (impl_Cat_apply.j1 k bt223.2.2 bt223.1 bt223.2.1) else ((impl_Cat_put.f k x213000 x213001 x12 x10 x7).bind fun bt229 => (impl_Cat_apply.j1 k bt229.2.2 bt229.1 bt229.2.1))))
def impl_Cat_apply.j1 : Nat → Int → Int → List (S33) → Option (Int × (List (S33)) × Bool)
 | 0, _, _, _ => none
 | k + 1, x15, x229000, x229001 => some (x229000, x229001, (x15 == 0))
end
def impl_Cat_apply.f (k : Nat) (a0_0 : Int) (l0_1 : List (S33)) (a1 : ByteArray) : Option (Int × (List (S33)) × Bool) := (strings_Cut.f a1 (⟨#[58]⟩ : ByteArray)).bind fun bt214 => ((strings_Cut.f bt214.1 (⟨#[32]⟩ : ByteArray)).bind fun bt217 => ((impl_number.f bt217.1).bind fun bt220 => (if a1.toList = ([] : List UInt8) then (impl_Cat_apply.j0 k bt214.2.1 bt217.2.1 bt220.1 true a0_0 l0_1) else ((impl_CatRecord.f k bt220.1 bt217.2.1 bt214.2.1).bind fun t222 => (impl_Cat_apply.j0 k bt214.2.1 bt217.2.1 bt220.1 (t222.toList != a1.toList) a0_0 l0_1)))))
theorem impl_Cat_apply.mono_l : ∀ k, (∀ y0 y1 y2 y3 y4 y5, LeO (impl_Cat_apply.j0 k y0 y1 y2 y3 y4 y5) (impl_Cat_apply.j0 (k + 1) y0 y1 y2 y3 y4 y5)) ∧ (∀ y0 y1 y2, LeO (impl_Cat_apply.j1 k y0 y1 y2) (impl_Cat_apply.j1 (k + 1) y0 y1 y2))
 | 0 => ⟨fun _ _ _ _ _ _ r h => by simp [impl_Cat_apply.j0] at h, fun _ _ _ r h => by simp [impl_Cat_apply.j1] at h⟩
 | k + 1 => by
  obtain ⟨ih0, ih1⟩ := impl_Cat_apply.mono_l k;refine ⟨?_, ?_⟩;intro y0 y1 y2 y3 y4 y5; unfold impl_Cat_apply.j0; rotate_left
  intro y0 y1 y2; unfold impl_Cat_apply.j1; rotate_left
  all_goals repeat' first
   | (with_reducible exact ih0 _ _ _ _ _ _)
   | (with_reducible exact ih1 _ _ _)
   | (with_reducible exact impl_CatRecord.mono _ _ _ _)
   | (with_reducible exact impl_Cat_put.mono _ _ _ _ _ _)
   | (with_reducible exact LeO.refl _)
   | (with_reducible exact LeO.none _)
   | (with_reducible refine LeO.ite ?_ ?_)
   | (with_reducible refine LeO.bind ?_ (fun _ => ?_))
   | exact LeO.none _
   | refine LeO.ite ?_ ?_
   | refine LeO.bind ?_ (fun _ => ?_)
theorem impl_Cat_apply.mono : ∀ a0 a1 a2 k, LeO (impl_Cat_apply.f k a0 a1 a2) (impl_Cat_apply.f (k + 1) a0 a1 a2) := by
 intro a0 a1 a2 k;obtain ⟨ih0, ih1⟩ := impl_Cat_apply.mono_l k;unfold impl_Cat_apply.f
 repeat' first
   | (with_reducible exact ih0 _ _ _ _ _ _)
   | (with_reducible exact ih1 _ _ _)
   | (with_reducible exact impl_CatRecord.mono _ _ _ _)
   | (with_reducible exact impl_Cat_put.mono _ _ _ _ _ _)
   | (with_reducible exact LeO.refl _)
   | (with_reducible exact LeO.none _)
   | (with_reducible refine LeO.ite ?_ ?_)
   | (with_reducible refine LeO.bind ?_ (fun _ => ?_))
   | exact LeO.none _
   | refine LeO.ite ?_ ?_
   | refine LeO.bind ?_ (fun _ => ?_)
set_option maxHeartbeats 8000000 in
set_option maxRecDepth 100000 in
theorem impl_Cat_apply.calls (k : Nat) (a0_0 : Int) (A0_1 : Option Addr) (c0_1 : Nat) (l0_1 : List (S33)) (a1 : ByteArray) (r1 : Int) (r2 : List (S33)) (r3 : Bool) (w : World) (hr0_1 : Kd.C k33 w A0_1 l0_1.length l0_1) (hc0_1 : l0_1.length ≤ c0_1) (hG : Glob w) (h : impl_Cat_apply.f k a0_0 l0_1 a1 = some (r1, r2, r3)) :
  Calls Tryd.prog 18 #[.agg #[.int .i64 a0_0, .slice A0_1 l0_1.length c0_1], .string a1] w fun e w' => ∃ v1_ : Value, e = .returned (.tuple #[.agg #[.int .i64 r1, v1_], .bool r3]) ∧ Kd.R k33 33 w' w.heap.size (fun _ => True) v1_ r2 ∧ Below w.heap.size w w' := by
 have hu28 := Tryd.underlying28;have HG := Aside0.mk hG;clear hG;have HR0_1 := Aside0.mk hr0_1;have HC0_1 := Aside0.mk hc0_1;clear hr0_1 hc0_1;have HB := Aside0.mk (Below.refl w.heap.size w);have H : ((strings_Cut.f a1 (⟨#[58]⟩ : ByteArray)).bind fun bt214 => ((strings_Cut.f bt214.1 (⟨#[32]⟩ : ByteArray)).bind fun bt217 => ((impl_number.f bt217.1).bind fun bt220 => (if a1.toList = ([] : List UInt8) then (impl_Cat_apply.j0 k bt214.2.1 bt217.2.1 bt220.1 true a0_0 l0_1) else ((impl_CatRecord.f k bt220.1 bt217.2.1 bt214.2.1).bind fun t222 => (impl_Cat_apply.j0 k bt214.2.1 bt217.2.1 bt220.1 (t222.toList != a1.toList) a0_0 l0_1)))))) = some (r1, r2, r3) := h;clear h;replace H := Option.bind_eq_some_iff.mp H;obtain ⟨⟨t214, t215, t216⟩, A30, H⟩ := H;replace H : ((strings_Cut.f t214 (⟨#[32]⟩ : ByteArray)).bind fun bt217 => ((impl_number.f bt217.1).bind fun bt220 => (if a1.toList = ([] : List UInt8) then (impl_Cat_apply.j0 k t215 bt217.2.1 bt220.1 true a0_0 l0_1) else ((impl_CatRecord.f k bt220.1 bt217.2.1 t215).bind fun t222 => (impl_Cat_apply.j0 k t215 bt217.2.1 bt220.1 (t222.toList != a1.toList) a0_0 l0_1))))) = some (r1, r2, r3) := H;have A3 := Aside0.mk A30;clear A30;replace H := Option.bind_eq_some_iff.mp H;obtain ⟨⟨t217, t218, t219⟩, A40, H⟩ := H;replace H : ((impl_number.f t217).bind fun bt220 => (if a1.toList = ([] : List UInt8) then (impl_Cat_apply.j0 k t215 t218 bt220.1 true a0_0 l0_1) else ((impl_CatRecord.f k bt220.1 t218 t215).bind fun t222 => (impl_Cat_apply.j0 k t215 t218 bt220.1 (t222.toList != a1.toList) a0_0 l0_1)))) = some (r1, r2, r3) := H;have A4 := Aside0.mk A40;clear A40;replace H := Option.bind_eq_some_iff.mp H;obtain ⟨⟨t220, t221⟩, A50, H⟩ := H;replace H : (if a1.toList = ([] : List UInt8) then (impl_Cat_apply.j0 k t215 t218 t220 true a0_0 l0_1) else ((impl_CatRecord.f k t220 t218 t215).bind fun t222 => (impl_Cat_apply.j0 k t215 t218 t220 (t222.toList != a1.toList) a0_0 l0_1))) = some (r1, r2, r3) := H;have A5 := Aside0.mk A50;clear A50;have HC6 := Aside0.mk H;clear H
 go_enter Tryd.func18, Tryd.ntmps18
 go_upto_region 4 with (first | ((with_reducible refine gate_dst (N := 2) rfl ?_); refine bv 2 #[.int .i64 a0_0, .slice A0_1 l0_1.length c0_1] 28 ?_; intro gb212 hg w7 hbox hb; have BK212 := Aside0.mk (hbox); have GW212 := gw HB hg; have GE212 := gw HB hg; replace HB := hbb HB hb; clear hb hbox hg) | ((with_reducible refine gate_dst (N := 4) rfl ?_); refine bv 4 #[.int .i64 0, .slice none 0 0] 28 ?_; intro gb213 hg w8 hbox hb; have BK213 := Aside0.mk (hbox); have GW213 := gw HB hg; have GE213 := gw HB hg; have NB212_213 := nl BK212 hg; have NB213_212 := ng BK212 hg; replace BK212 := kb BK212 hb; replace HB := hbb HB hb; clear hb hbox hg) | ((with_reducible refine gate_callee (f := 25) rfl ?_); refine gL 18 Tryd.func25 #[.string a1, .string (⟨#[58]⟩ : ByteArray)] ?_; (with_reducible refine (strings_Cut.calls a1 (⟨#[58]⟩ : ByteArray) t214 t215 t216 _ ?side1 A3.out).mono ?_); (case side1 => exact Glob.on HG.out (by exact bb HB.out)); rintro e w' ⟨rfl, ⟨nd, rfl⟩⟩; refine ⟨_, rfl, ?_⟩) | ((with_reducible refine gate_callee (f := 25) rfl ?_); refine gL 24 Tryd.func25 #[.string t214, .string (⟨#[32]⟩ : ByteArray)] ?_; (with_reducible refine (strings_Cut.calls t214 (⟨#[32]⟩ : ByteArray) t217 t218 t219 _ ?side1 A4.out).mono ?_); (case side1 => exact Glob.on HG.out (by exact bb HB.out)); rintro e w' ⟨rfl, ⟨nd, rfl⟩⟩; refine ⟨_, rfl, ?_⟩) | ((with_reducible refine gate_callee (f := 26) rfl ?_); refine gL 30 Tryd.func26 #[.string t217] ?_; (with_reducible refine (impl_number.calls t217 t220 t221 _ ?side1 A5.out).mono ?_); (case side1 => exact Glob.on HG.out (by exact bb HB.out)); rintro e w9 ⟨rfl, hb⟩; refine ⟨_, rfl, ?_⟩; replace BK212 := kb BK212 hb; replace BK213 := kb BK213 hb; replace HB := hbb HB hb; (try clear hb); (try clear hb2); (try clear hk); (try clear hi)))
 (try simp only [Act.put, sB, s0, s1])
 go_cut [42] (fun v42 wc => ∃ (kq : Nat) (x42_5 : Bool), v42 = .bool x42_5 ∧ Aside0 (impl_Cat_apply.j0 kq t215 t218 t220 x42_5 a0_0 l0_1 = some (r1, r2, r3)) ∧ Aside0 (kq ≤ k) ∧ Aside0 (wc.heap[gb212]? = some (.cells #[.int .i64 a0_0, (.slice A0_1 l0_1.length c0_1)] 28 (0, 0))) ∧ Aside0 (wc.heap[gb213]? = some (.cells #[.int .i64 0, (.slice none 0 0)] 28 (0, 0))) ∧ Aside0 (Below w.heap.size w wc))
 case first =>
  have H := HC6.out;clear HC6
  by_cases c10 : a1.toList = ([] : List UInt8)
  ·rw [if_pos c10] at H;have c10b0 : (a1.toList == ([] : List UInt8)) = true := beq_iff_eq.mpr c10;have c10e := nilE c10b0;have c10b1 : (a1.toList != ([] : List UInt8)) = false := bne_eq_false_iff_eq.mpr c10;clear c10;(first | rw [c10b0] | rw [c10e] | (simp only [i64_w, i32_w]; rw [c10b0]) | skip);have H' := Aside0.mk H;clear H;go_wp2
   go_meet
   case rel => exact ⟨_, (true), rs, H', ⟨by first | omega | exact Nat.le_refl _⟩, ⟨bl BK212.out⟩, ⟨bl BK213.out⟩, ⟨by exact bb HB.out⟩⟩
  ·rw [if_neg c10] at H;have c10b0 : (a1.toList == ([] : List UInt8)) = false := beq_eq_false_iff_ne.mpr c10;have c10e := nilE c10b0;have c10b1 : (a1.toList != ([] : List UInt8)) = true := bne_iff_ne.mpr c10;(first | rw [c10b0] | rw [c10e] | (simp only [i64_w, i32_w]; rw [c10b0]) | skip);replace H := Option.bind_eq_some_iff.mp H;obtain ⟨t222, A110, H⟩ := H;have A11 := Aside0.mk A110;clear A110;have H' := Aside0.mk H;clear H;go_wp2_with (first | (go_at_call 5; (with_reducible refine (impl_CatRecord.calls k t220 t218 t215 t222 _ ?side1 A11.out).mono ?_); (case side1 => exact Glob.on HG.out (by exact bb HB.out)); rintro e w12 ⟨rfl, hb⟩; replace BK212 := kb BK212 hb; replace BK213 := kb BK213 hb; replace HB := hbb HB hb; (try clear hb); (try clear hb2); (try clear hk); (try clear hi)))
   go_meet
   case rel => exact ⟨_, ((t222.toList != a1.toList)), rs, H', ⟨by first | omega | exact Nat.le_refl _⟩, ⟨bl BK212.out⟩, ⟨bl BK213.out⟩, ⟨by exact bb HB.out⟩⟩
 case rest =>
  clear HC6;try clear c1
  try clear c2
  try clear p2
  try clear c10
  try clear c10b0
  try clear c10b1
  obtain ⟨kq, x42_5, rfl, HA, HJ5, BK212, BK213, HB⟩ := hcut
  cases kq with
  | zero => exact absurd HA.out (by simp [impl_Cat_apply.j0])
  | succ kj5 =>
   have H := HA.out;clear HA;simp only [impl_Cat_apply.j0] at H
   by_cases c13 : x42_5 = true
   ·subst c13;rw [if_pos rfl] at H;simp only [Option.some.injEq, Prod.mk.injEq] at H;obtain ⟨rfl, rfl, rfl⟩ := H;have hnb14 := NB213_212.out;have hnc14 := NB212_213.out;obtain ⟨hcz15_0, hcz15_1, hfz15_0, hfz15_1⟩ := c2 BK213;go_wp2;refine bodyPost_ret (results_ct rfl _ _ gb213 28 #[.int .i64 0, .slice none 0 0] (0, 0) _ rfl (bp BK213.out (by rfl)) Tryd.underlying28 rfl (by kernel_rfl)) rfl ?_;exact ⟨_, by first | rfl | (simp [errW_none, errW_some] <;> rfl) | (simp [*, errW_none, errW_some] <;> rfl), by first | exact Kd.R_nil _ _ _ _ _ | exact Kd.N_nil _ _ _ _ _ | exact Kd.V_nil _ _ _ _ _ | exact Kd.Q_nil _ _ _ _ _ | exact Kd.S_nil _ _ _ _ _, by exact bbx (a := gb213) HB.out GE213.out⟩
   replace c13 := Bool.eq_false_iff.mpr c13;subst c13;rw [if_neg (show ¬ (false = true) by decide)] at H;replace H := Option.bind_eq_some_iff.mp H;obtain ⟨⟨t223, t224, t227⟩, A160, H⟩ := H;replace H : (if t215.toList = ([] : List UInt8) then (impl_Cat_apply.j1 kj5 t227 t223 t224) else ((impl_Cat_put.f kj5 a0_0 l0_1 t220 t218 t215).bind fun bt229 => (impl_Cat_apply.j1 kj5 bt229.2.2 bt229.1 bt229.2.1))) = some (r1, r2, r3) := H;have A16 := Aside0.mk A160;clear A160;have HC17 := Aside0.mk H;clear H;have hnb18 := NB212_213.out;have hnc18 := NB213_212.out;obtain ⟨hcz19_0, hcz19_1, hfz19_0, hfz19_1⟩ := c2 BK212
   go_upto_if 52 with (first | ((with_reducible refine gate_callee (f := 27) rfl ?_); refine gL 48 Tryd.func27 #[.agg #[.int .i64 a0_0, .slice A0_1 l0_1.length c0_1], .int .i64 t220, .string t218] ?_; (with_reducible refine (impl_Cat_take.calls a0_0 _ _ l0_1 t220 t218 t223 t224 t227 _ ?side1 ?side2 A16.out).mono ?_); (case side1 => repeat (first | exact (Kd.C_below HR0_1.out HB.out) | (with_reducible refine Kd.C_alloc ?_ _) | (with_reducible refine Kd.C_drewN ?_ _) | (with_reducible refine Kd.C_drew ?_))); (case side2 => exact HC0_1.out); rintro e w20 ⟨v225, rfl, ho0, hb⟩; refine ⟨_, rfl, ?_⟩; have HO226 := Aside0.mk (Kd.R_lower ho0 (below_size (by exact bb HB.out))); replace BK212 := kb BK212 hb; replace BK213 := kb BK213 hb; replace HB := hbb HB hb; (try clear hb); (try clear hb2); (try clear hk); (try clear hi); (try clear ho0)) | ((with_reducible refine gate_dst (N := 14) rfl ?_); refine bv 14 #[.int .i64 0, .slice none 0 0] 28 ?_; intro gb228 hg w21 hbox hb; have BK228 := Aside0.mk (hbox); have GW228 := gw HB hg; have GE228 := gw HB hg; have NB212_228 := nl BK212 hg; have NB228_212 := ng BK212 hg; have NB213_228 := nl BK213 hg; have NB228_213 := ng BK213 hg; replace HO226 := Kd.rR HO226 hb; replace BK212 := kb BK212 hb; replace BK213 := kb BK213 hb; replace HB := hbb HB hb; clear hb hbox hg; have hnb22 := NB228_212.out; have hnc22 := NB212_228.out; have hnb23 := NB228_213.out; have hnc23 := NB213_228.out; obtain ⟨hcz24_0, hcz24_1, hfz24_0, hfz24_1⟩ := c2 BK228; obtain ⟨Ao25, co25, eo25⟩ := Kd.R_slice HO226.out; subst eo25))
   (try simp only [Act.put, sB, s0, s1])
   go_cut [15] (fun v15 wc => ∃ (kq : Nat) (x15_16 : Int) (x229000_16 : Int) (x229001_16 : List (S33)) (u229001 : Value), v15 = .int .i64 x15_16 ∧ Aside0 (impl_Cat_apply.j1 kq x15_16 x229000_16 x229001_16 = some (r1, r2, r3)) ∧ Aside0 (kq ≤ kj5) ∧ Aside0 (Kd.R k33 33 wc w.heap.size (fun _ => True) u229001 x229001_16) ∧ Aside0 (wc.heap[gb212]? = some (.cells #[.int .i64 a0_0, (.slice A0_1 l0_1.length c0_1)] 28 (0, 0))) ∧ Aside0 (wc.heap[gb213]? = some (.cells #[.int .i64 0, (.slice none 0 0)] 28 (0, 0))) ∧ Aside0 (wc.heap[gb228]? = some (.cells #[.int .i64 x229000_16, u229001] 28 (0, 0))) ∧ Aside0 (Below w.heap.size w wc))
   case first =>
    have H := HC17.out;clear HC17
    by_cases c26 : t215.toList = ([] : List UInt8)
    ·rw [if_pos c26] at H;have c26b0 : (t215.toList == ([] : List UInt8)) = true := beq_iff_eq.mpr c26;have c26e := nilE c26b0;have c26b1 : (t215.toList != ([] : List UInt8)) = false := bne_eq_false_iff_eq.mpr c26;clear c26;(first | rw [c26b0] | rw [c26e] | (simp only [i64_w, i32_w]; rw [c26b0]) | skip);have H' := Aside0.mk H;clear H;go_wp2
     go_meet
     case rel => exact ⟨_, (t227), (t223), (t224), (.slice Ao25 t224.length co25), rs, H', ⟨by have := HJ5.out; first | omega | exact Nat.le_refl _⟩, ⟨by exact Kd.R_mono (Kd.R_lax (g := gb228) (Kd.R_types HO226.out BK228.out (by decide)) (fun _ hk => hk.2)) (fun _ hk => trivial)⟩, ⟨bx (a := gb228) BK212.out NB212_228.out⟩, ⟨bx (a := gb228) BK213.out NB213_228.out⟩, ⟨bp BK228.out (by rfl)⟩, ⟨by exact bbx (a := gb228) HB.out GE228.out⟩⟩
    rw [if_neg c26] at H;have c26b0 : (t215.toList == ([] : List UInt8)) = false := beq_eq_false_iff_ne.mpr c26;have c26e := nilE c26b0;have c26b1 : (t215.toList != ([] : List UInt8)) = true := bne_iff_ne.mpr c26;(first | rw [c26b0] | rw [c26e] | (simp only [i64_w, i32_w]; rw [c26b0]) | skip);replace H := Option.bind_eq_some_iff.mp H;obtain ⟨⟨t229, t230, t233⟩, A270, H⟩ := H;replace H : (impl_Cat_apply.j1 kj5 t233 t229 t230) = some (r1, r2, r3) := H;have A27 := Aside0.mk A270;clear A270;have H' := Aside0.mk H;clear H;have hnb28 := NB212_213.out;have hnc28 := NB213_212.out;have hnb29 := NB212_228.out;have hnc29 := NB228_212.out;obtain ⟨hcz30_0, hcz30_1, hfz30_0, hfz30_1⟩ := c2 BK212;go_wp2_with (first | ((with_reducible refine gate_callee (f := 28) rfl ?_); refine gL 58 Tryd.func28 #[.agg #[.int .i64 a0_0, .slice A0_1 l0_1.length c0_1], .int .i64 t220, .string t218, .string t215] ?_; (with_reducible refine (impl_Cat_put.calls kj5 a0_0 _ _ l0_1 t220 t218 t215 t229 t230 t233 _ ?side1 ?side2 A27.out).mono ?_); (case side1 => exact Kd.C_below HR0_1.out (by exact bbx (a := gb228) HB.out GE228.out)); (case side2 => exact HC0_1.out); rintro e w31 ⟨v231, rfl, ho0, hb⟩; refine ⟨_, rfl, ?_⟩; have HO232 := Aside0.mk (Kd.R_lower (Kd.R_new' ho0 (Kd.R_lt (by exact (Kd.R_mono (Kd.R_lax (g := gb228) (Kd.R_types HO226.out BK228.out (by decide)) (fun _ hk => hk.2)) (fun _ h_ => h_.1))))) (below_size (by exact bbx (a := gb228) HB.out GE228.out))); replace HO226 := Aside0.mk (Kd.R_elder' (by exact (Kd.R_mono (Kd.R_lax (g := gb228) (Kd.R_types HO226.out BK228.out (by decide)) (fun _ hk => hk.2)) (fun _ h_ => h_.1))) (Kd.R_base ho0) hb); replace BK212 := kbx (a := gb228) BK212 NB212_228 hb; replace BK213 := kbx (a := gb228) BK213 NB213_228 hb; replace BK228 := Aside0.mk (blk_below (o := .cells #[.int .i64 t223, .slice Ao25 t224.length co25] 28 (0, 0)) (bp BK228.out (by rfl)) hb); replace HB := hbx (a := gb228) HB GE228 hb; (try clear hb); (try clear hb2); (try clear hk); (try clear hi); (try clear ho0); have hnb32 := NB228_213.out; have hnc32 := NB213_228.out; obtain ⟨hcz33_0, hcz33_1, hfz33_0, hfz33_1⟩ := c2 BK228; obtain ⟨Ao34, co34, eo34⟩ := Kd.R_slice HO232.out; subst eo34))
    go_meet
    case rel => exact ⟨_, (t233), (t229), (t230), (.slice Ao34 t230.length co34), rs, H', ⟨by have := HJ5.out; first | omega | exact Nat.le_refl _⟩, ⟨by exact Kd.R_mono (Kd.R_lax (g := gb228) (Kd.R_types HO232.out BK228.out (by decide)) (fun _ hk => hk.2)) (fun _ hk => trivial)⟩, ⟨bx (a := gb228) BK212.out NB212_228.out⟩, ⟨bx (a := gb228) BK213.out NB213_228.out⟩, ⟨bp BK228.out (by rfl)⟩, ⟨by exact bbx (a := gb228) HB.out GE228.out⟩⟩
   case rest =>
    clear HC17;try clear c1
    try clear c2
    try clear p2
    try clear c3
    try clear c10
    try clear c10b0
    try clear c10b1
    try clear c13
    try clear c14
    try clear c18
    try clear c22
    try clear c23
    try clear c25
    try clear c26
    try clear c26b0
    try clear c26b1
    try clear c27
    try clear c28
    try clear c29
    try clear c32
    try clear hcz15_0
    try clear hcz15_1
    try clear hcz19_0
    try clear hcz19_1
    try clear hcz24_0
    try clear hcz24_1
    try clear hcz30_0
    try clear hcz30_1
    try clear hcz33_0
    try clear hcz33_1
    try clear hfz15_0
    try clear hfz15_1
    try clear hfz19_0
    try clear hfz19_1
    try clear hfz24_0
    try clear hfz24_1
    try clear hfz30_0
    try clear hfz30_1
    try clear hfz33_0
    try clear hfz33_1
    try clear p2
    obtain ⟨kq, x15_16, x229000_16, x229001_16, u229001, rfl, HA, HJ16, HO_229001, BK212, BK213, BK228, HB⟩ := hcut
    cases kq with
    | zero => exact absurd HA.out (by simp [impl_Cat_apply.j1])
    | succ kj16 =>
     have H := HA.out;clear HA;simp only [impl_Cat_apply.j1] at H;simp only [Option.some.injEq, Prod.mk.injEq] at H;obtain ⟨rfl, rfl, rfl⟩ := H;have hnb35 := NB228_212.out;have hnc35 := NB212_228.out;have hnb36 := NB228_213.out;have hnc36 := NB213_228.out;obtain ⟨hcz37_0, hcz37_1, hfz37_0, hfz37_1⟩ := c2 BK228;have hnb38 := NB213_212.out;have hnc38 := NB212_213.out;obtain ⟨hcz39_0, hcz39_1, hfz39_0, hfz39_1⟩ := c2 BK213;obtain ⟨Ao40, co40, eo40⟩ := Kd.R_slice HO_229001.out;subst eo40;go_wp2;refine bodyPost_ret (results_ct rfl _ _ gb213 28 #[.int .i64 x229000_16, .slice Ao40 x229001_16.length co40] (0, 0) _ rfl (bp BK213.out (by rfl)) Tryd.underlying28 rfl (by kernel_rfl)) rfl ?_;exact ⟨_, by first | rfl | (simp [errW_none, errW_some] <;> rfl) | (simp [*, errW_none, errW_some] <;> rfl), by exact Kd.R_mono (Kd.R_lax (g := gb213) (Kd.R_types HO_229001.out BK213.out (by decide)) (fun _ hk => hk.2)) (fun _ hk => trivial), by exact bbx (a := gb213) HB.out GE213.out⟩
def impl_CatOf.l0 : Nat → List ByteArray → Int → Int → Int → List (S33) → Option (Int × (List (S33)) × Bool)
 | 0, _, _, _, _, _ => none
 | k + 1, x11, x12, x13, x239000, x239001 => if x13 < x12 then (if 0 ≤ x13 then (if x13 < (x11.length : Int) then ((impl_Cat_apply.f k x239000 x239001 (rdOf ByteArray.empty x11 x13)).bind fun bt240 => (if bt240.2.2 = true then (impl_CatOf.l0 k x11 x12 (wrap64 (x13 + 1)) bt240.1 bt240.2.1) else (some (0, ([] : List (S33)), false)))) else (none)) else (none)) else (some (x239000, x239001, true))
def impl_CatOf.f (k : Nat) (l0 : List ByteArray) : Option (Int × (List (S33)) × Bool) := impl_CatOf.l0 k l0 (l0.length : Int) 0 0 (([] : List (S33)))
theorem impl_CatOf.mono_l : ∀ k, (∀ y0 y1 y2 y3 y4, LeO (impl_CatOf.l0 k y0 y1 y2 y3 y4) (impl_CatOf.l0 (k + 1) y0 y1 y2 y3 y4))
 | 0 => fun _ _ _ _ _ r h => by simp [impl_CatOf.l0] at h
 | k + 1 => by
  have ih0 := impl_CatOf.mono_l k;intro y0 y1 y2 y3 y4;unfold impl_CatOf.l0
  repeat' first
  | (with_reducible exact ih0 _ _ _ _ _)
  | (with_reducible exact impl_Cat_apply.mono _ _ _ _)
  | (with_reducible exact LeO.refl _)
  | (with_reducible exact LeO.none _)
  | (with_reducible refine LeO.ite ?_ ?_)
  | (with_reducible refine LeO.bind ?_ (fun _ => ?_))
  | exact LeO.none _
  | refine LeO.ite ?_ ?_
  | refine LeO.bind ?_ (fun _ => ?_)
theorem impl_CatOf.mono : ∀ a0 k, LeO (impl_CatOf.f k a0) (impl_CatOf.f (k + 1) a0) := by
 intro a0 k;have ih0 := impl_CatOf.mono_l k;unfold impl_CatOf.f
 repeat' first
   | (with_reducible exact ih0 _ _ _ _ _)
   | (with_reducible exact impl_Cat_apply.mono _ _ _ _)
   | (with_reducible exact LeO.refl _)
   | (with_reducible exact LeO.none _)
   | (with_reducible refine LeO.ite ?_ ?_)
   | (with_reducible refine LeO.bind ?_ (fun _ => ?_))
   | exact LeO.none _
   | refine LeO.ite ?_ ?_
   | refine LeO.bind ?_ (fun _ => ?_)
set_option maxHeartbeats 8000000 in
set_option maxRecDepth 100000 in
theorem impl_CatOf.calls (k : Nat) (A0 : Option Addr) (c0 : Nat) (l0 : List ByteArray) (r1 : Int) (r2 : List (S33)) (r3 : Bool) (w : World) (hr0 : Kd.C Kd.string w A0 l0.length l0) (hc0 : l0.length ≤ c0) (hG : Glob w) (h : impl_CatOf.f k l0 = some (r1, r2, r3)) :
  Calls Tryd.prog 7 #[.slice A0 l0.length c0] w fun e w' => ∃ v1_ : Value, e = .returned (.tuple #[.agg #[.int .i64 r1, v1_], .bool r3]) ∧ Kd.R k33 33 w' w.heap.size (fun _ => True) v1_ r2 ∧ Below w.heap.size w w' := by
 have hu28 := Tryd.underlying28;have HG := Aside0.mk hG;clear hG;have HR0 := Aside0.mk hr0;have HC0 := Aside0.mk hc0;clear hr0 hc0;have HB := Aside0.mk (Below.refl w.heap.size w);have H : (impl_CatOf.l0 k l0 (l0.length : Int) 0 0 (([] : List (S33)))) = some (r1, r2, r3) := h;clear h;obtain ⟨y235, hy235⟩ : ∃ y_ : List (S33), y_ = (([] : List (S33))) := ⟨_, rfl⟩;replace H : (impl_CatOf.l0 k l0 (l0.length : Int) 0 0 y235) = some (r1, r2, r3) := by first | (rw [hy235]; with_reducible exact H) | (have H2_ := (Option.bind_some _ _).symm.trans H; rw [hy235]; with_reducible exact H2_) | (have H2_ := (Option.bind_some _ _).symm.trans H; with_reducible exact H2_) | with_reducible exact H | (rw [hy235]; exact H) | exact H
 have Ny235 := Aside0.mk hy235;clear hy235;have H' := Aside0.mk H;clear H
 go_enter Tryd.func7, Tryd.ntmps7
 go_wp2_with (first | ((with_reducible refine gate_dst (N := 2) rfl ?_); refine bv 2 #[.int .i64 0, .slice none 0 0] 28 ?_; intro gb234 hg w2 hbox hb; have BK234 := Aside0.mk (hbox); have GW234 := gw HB hg; have GE234 := gw HB hg; replace HB := hbb HB hb; clear hb hbox hg) | ((with_reducible refine gate_dst (N := 9) rfl ?_); refine rL k33 33 9 ([] : List (S33)) [] ?_; intro v236 w3 ho4 hb hg_ hnew_; clear hg_ hnew_; (first | rw [← Ny235.out] at ho4 | (simp only [Int.reduceToNat] at ho4; rw [← Ny235.out] at ho4)); have HO237 := Aside0.mk (Kd.R_lower ho4 (below_size (by exact bb HB.out))); replace BK234 := kb BK234 hb; replace HB := hbb HB hb; clear hb ho4; obtain ⟨Ao5, co5, eo5⟩ := Kd.R_slice HO237.out; subst eo5) | ((with_reducible refine gate_dst (N := 4) rfl ?_); refine bv 4 #[.int .i64 0, .slice none 0 0] 28 ?_; intro gb238 hg w6 hbox hb; have BK238 := Aside0.mk (hbox); have GW238 := gw HB hg; have GE238 := gw HB hg; have NB234_238 := nl BK234 hg; have NB238_234 := ng BK234 hg; replace HO237 := Kd.rR HO237 hb; replace BK234 := kb BK234 hb; replace HB := hbb HB hb; clear hb hbox hg; have hnb7 := NB238_234.out; have hnc7 := NB234_238.out; obtain ⟨hcz8_0, hcz8_1, hfz8_0, hfz8_1⟩ := c2 BK238))
 go_loopg [13] k (fun kq v13 w' => ∃ (x13_1 : Int) (x235000_1 : Int) (x239000_1 : Int) (x239001_1 : List (S33)) (u239001 : Value), v13 = .int .i64 x13_1 ∧ Aside0 (impl_CatOf.l0 kq l0 (l0.length : Int) x13_1 x239000_1 x239001_1 = some (r1, r2, r3)) ∧ Aside0 (kq ≤ k) ∧ Aside0 (Kd.R k33 33 w' w.heap.size (fun _ => True) u239001 x239001_1) ∧ Aside0 (w'.heap[gb234]? = some (.cells #[.int .i64 x235000_1, (.slice none 0 0)] 28 (0, 0))) ∧ Aside0 (w'.heap[gb238]? = some (.cells #[.int .i64 x239000_1, u239001] 28 (0, 0))) ∧ Aside0 (Below w.heap.size w w'))
 case atStart => exact ⟨(0), (0), (0), (y235), (.slice Ao5 y235.length co5), rs, H', ⟨Nat.le_refl _⟩, ⟨by exact Kd.R_mono (Kd.R_lax (g := gb238) (Kd.R_types HO237.out BK238.out (by decide)) (fun _ hk => hk.2)) (fun _ hk => trivial)⟩, ⟨bx (a := gb238) BK234.out NB234_238.out⟩, ⟨bp BK238.out (by rfl)⟩, ⟨by exact bbx (a := gb238) HB.out GE238.out⟩⟩
 case round =>
  clear H';try clear p2
  try clear c7
  try clear hcz8_0
  try clear hcz8_1
  try clear hfz8_0
  try clear hfz8_1
  obtain ⟨x13_1, x235000_1, x239000_1, x239001_1, u239001, rfl, HA, HK1, HO_239001, BK234, BK238, HB⟩ := hrel
  cases gk with
  | zero => exact absurd HA.out (by simp [impl_CatOf.l0])
  | succ k1 =>
   have H := HA.out;clear HA;simp only [impl_CatOf.l0] at H
   by_cases c9 : x13_1 < (l0.length : Int)
   ·rw [if_pos c9] at H;have c9b0 : decide (x13_1 < (l0.length : Int)) = true := decide_eq_true c9;clear c9
    by_cases c10 : 0 ≤ x13_1
    ·rw [if_pos c10] at H;have c10b0 : decide (0 ≤ x13_1) = true := decide_eq_true c10;clear c10
     by_cases c11 : x13_1 < (l0.length : Int)
     ·rw [if_pos c11] at H;have c11b0 : decide (x13_1 < (l0.length : Int)) = true := decide_eq_true c11;clear c11;replace H := Option.bind_eq_some_iff.mp H;obtain ⟨⟨t240, t241, t244⟩, A120, H⟩ := H;replace H : (if t244 = true then (impl_CatOf.l0 k1 l0 (l0.length : Int) (wrap64 (x13_1 + 1)) t240 t241) else (some (0, ([] : List (S33)), false))) = some (r1, r2, r3) := H;have A12 := Aside0.mk A120;clear A120
      by_cases c13 : t244 = true
      ·subst c13;rw [if_pos rfl] at H;have H' := Aside0.mk H;clear H;have p239 : 0 ≤ (x13_1 : Int) := of_decide_eq_true am;have q239 : x13_1 < (l0.length : Int) := of_decide_eq_true am;obtain ⟨ad239, e239, hx239_0⟩ := Kd.at_string HR0.out x13_1 p239 q239;cases e239;replace hx239_0 := (HB.out.cell (World.block_lt_of_cell? w _ hx239_0)).trans hx239_0;replace p239 := eq_true p239;replace q239 := eq_true q239;have hnb14 := NB238_234.out;have hnc14 := NB234_238.out;obtain ⟨hcz15_0, hcz15_1, hfz15_0, hfz15_1⟩ := c2 BK238;obtain ⟨Ao16, co16, eo16⟩ := Kd.R_slice HO_239001.out;subst eo16;go_wp2_with (first | ((with_reducible refine gate_callee (f := 18) rfl ?_); refine gL 20 Tryd.func18 #[.agg #[.int .i64 x239000_1, .slice Ao16 x239001_1.length co16], .string (rdOf ByteArray.empty l0 x13_1)] ?_; (with_reducible refine (impl_Cat_apply.calls k1 x239000_1 _ _ x239001_1 (rdOf ByteArray.empty l0 x13_1) t240 t241 true _ ?side1 ?side2 ?side3 A12.out).mono ?_); (case side1 => exact Kd.cR HO_239001); (case side2 => exact (Kd.R_reads' HO_239001.out).2.1); (case side3 => exact Glob.on HG.out (by exact bb HB.out)); rintro e w17 ⟨v242, rfl, ho0, hb⟩; refine ⟨_, rfl, ?_⟩; have HO243 := Aside0.mk (Kd.R_lower (Kd.R_new' ho0 (Kd.R_lt (by exact rl HO_239001))) (below_size (by exact bb HB.out))); replace HO_239001 := Aside0.mk (Kd.R_elder' (by exact rl HO_239001) (Kd.R_base ho0) hb); replace BK234 := kb BK234 hb; replace BK238 := kb BK238 hb; replace HB := hbb HB hb; (try clear hb); (try clear hb2); (try clear hk); (try clear hi); (try clear ho0)) | ((with_reducible refine gate_dst (N := 7) rfl ?_); refine bv 7 #[.int .i64 0, .slice none 0 0] 28 ?_; intro gb245 hg w18 hbox hb; have BK245 := Aside0.mk (hbox); have GW245 := gw HB hg; have GE245 := gw HB hg; have NB234_245 := nl BK234 hg; have NB245_234 := ng BK234 hg; have NB238_245 := nl BK238 hg; have NB245_238 := ng BK238 hg; replace HO_239001 := Kd.rR HO_239001 hb; replace HO243 := Kd.rR HO243 hb; replace BK234 := kb BK234 hb; replace BK238 := kb BK238 hb; replace HB := hbb HB hb; clear hb hbox hg; have hnb19 := NB245_234.out; have hnc19 := NB234_245.out; have hnb20 := NB245_238.out; have hnc20 := NB238_245.out; obtain ⟨hcz21_0, hcz21_1, hfz21_0, hfz21_1⟩ := c2 BK245; obtain ⟨Ao22, co22, eo22⟩ := Kd.R_slice HO243.out; subst eo22; obtain ⟨hcz23_0, hcz23_1, hfz23_0, hfz23_1⟩ := c2 BK238))
       go_roundg k1
       case measure => have := HK1.out; omega
       case rel => exact ⟨(wrap64 (x13_1 + 1)), (x235000_1), (t240), (t241), (.slice Ao22 t241.length co22), rs, H', ⟨by have := HK1.out; omega⟩, ⟨by (with_reducible repeat (first | apply Kd.R_alloc | apply Kd.R_drewN | apply Kd.R_drew)); exact Kd.R_mono (Kd.R_far (p := ⟨gb238, 1, none⟩) (Kd.R_far (p := ⟨gb238, 0, none⟩) (Kd.R_far (p := ⟨gb245, 1, none⟩) (Kd.R_far (p := ⟨gb245, 0, none⟩) (Kd.R_types (Kd.R_types HO243.out BK245.out (by decide)) BK238.out (by decide)) (fun _ hk => hk.1.2) (.int .i64 t240)) (fun _ hk => hk.1.2) (.slice Ao22 t241.length co22)) (fun _ hk => hk.2) (.int .i64 t240)) (fun _ hk => hk.2) (.slice Ao22 t241.length co22)) (fun _ hk => trivial)⟩, ⟨by (with_reducible repeat (first | refine blk_drewN ?_ _ | refine blk_drew ?_ | refine blk_alloc ?_ _)); refine blk_far ?_ NB234_238.out _; (with_reducible repeat (first | refine blk_drewN ?_ _ | refine blk_drew ?_ | refine blk_alloc ?_ _)); refine blk_far ?_ NB234_238.out _; (with_reducible repeat (first | refine blk_drewN ?_ _ | refine blk_drew ?_ | refine blk_alloc ?_ _)); refine blk_far ?_ NB234_245.out _; (with_reducible repeat (first | refine blk_drewN ?_ _ | refine blk_drew ?_ | refine blk_alloc ?_ _)); refine blk_far ?_ NB234_245.out _; (with_reducible repeat (first | refine blk_drewN ?_ _ | refine blk_drew ?_ | refine blk_alloc ?_ _)); exact BK234.out⟩, ⟨by (with_reducible repeat (first | refine blk_drewN ?_ _ | refine blk_drew ?_ | refine blk_alloc ?_ _)); refine blk_put (cs := #[.int .i64 t240, .slice Ao16 x239001_1.length co16]) ?_ 1 _ rfl; (with_reducible repeat (first | refine blk_drewN ?_ _ | refine blk_drew ?_ | refine blk_alloc ?_ _)); refine blk_put (cs := #[.int .i64 x239000_1, .slice Ao16 x239001_1.length co16]) ?_ 0 _ rfl; (with_reducible repeat (first | refine blk_drewN ?_ _ | refine blk_drew ?_ | refine blk_alloc ?_ _)); refine blk_far ?_ NB238_245.out _; (with_reducible repeat (first | refine blk_drewN ?_ _ | refine blk_drew ?_ | refine blk_alloc ?_ _)); refine blk_far ?_ NB238_245.out _; (with_reducible repeat (first | refine blk_drewN ?_ _ | refine blk_drew ?_ | refine blk_alloc ?_ _)); exact BK238.out⟩, ⟨by repeat (first | (with_reducible first | exact HB.out | apply below_alloc | apply pw_below_drewN | apply below_drew1 | refine below_set ?_ GE234.out | refine below_set ?_ GE238.out | refine below_set ?_ GE245.out) | exact HB.out)⟩⟩
      replace c13 := Bool.eq_false_iff.mpr c13;subst c13;rw [if_neg (show ¬ (false = true) by decide)] at H;simp only [Option.some.injEq, Prod.mk.injEq] at H;obtain ⟨rfl, rfl, rfl⟩ := H;have p239 : 0 ≤ (x13_1 : Int) := of_decide_eq_true am;have q239 : x13_1 < (l0.length : Int) := of_decide_eq_true am;obtain ⟨ad239, e239, hx239_0⟩ := Kd.at_string HR0.out x13_1 p239 q239;cases e239;replace hx239_0 := (HB.out.cell (World.block_lt_of_cell? w _ hx239_0)).trans hx239_0;replace p239 := eq_true p239;replace q239 := eq_true q239;have hnb24 := NB238_234.out;have hnc24 := NB234_238.out;obtain ⟨hcz25_0, hcz25_1, hfz25_0, hfz25_1⟩ := c2 BK238;obtain ⟨Ao26, co26, eo26⟩ := Kd.R_slice HO_239001.out;subst eo26;go_wp2_with (first | ((with_reducible refine gate_callee (f := 18) rfl ?_); refine gL 20 Tryd.func18 #[.agg #[.int .i64 x239000_1, .slice Ao26 x239001_1.length co26], .string (rdOf ByteArray.empty l0 x13_1)] ?_; (with_reducible refine (impl_Cat_apply.calls k1 x239000_1 _ _ x239001_1 (rdOf ByteArray.empty l0 x13_1) t240 t241 false _ ?side1 ?side2 ?side3 A12.out).mono ?_); (case side1 => exact Kd.cR HO_239001); (case side2 => exact (Kd.R_reads' HO_239001.out).2.1); (case side3 => exact Glob.on HG.out (by exact bb HB.out)); rintro e w27 ⟨v242, rfl, ho0, hb⟩; refine ⟨_, rfl, ?_⟩; have HO243 := Aside0.mk (Kd.R_lower (Kd.R_new' ho0 (Kd.R_lt (by exact rl HO_239001))) (below_size (by exact bb HB.out))); replace HO_239001 := Aside0.mk (Kd.R_elder' (by exact rl HO_239001) (Kd.R_base ho0) hb); replace BK234 := kb BK234 hb; replace BK238 := kb BK238 hb; replace HB := hbb HB hb; (try clear hb); (try clear hb2); (try clear hk); (try clear hi); (try clear ho0)) | ((with_reducible refine gate_dst (N := 7) rfl ?_); refine bv 7 #[.int .i64 0, .slice none 0 0] 28 ?_; intro gb245 hg w28 hbox hb; have BK245 := Aside0.mk (hbox); have GW245 := gw HB hg; have GE245 := gw HB hg; have NB234_245 := nl BK234 hg; have NB245_234 := ng BK234 hg; have NB238_245 := nl BK238 hg; have NB245_238 := ng BK238 hg; replace HO_239001 := Kd.rR HO_239001 hb; replace HO243 := Kd.rR HO243 hb; replace BK234 := kb BK234 hb; replace BK238 := kb BK238 hb; replace HB := hbb HB hb; clear hb hbox hg; have hnb29 := NB245_234.out; have hnc29 := NB234_245.out; have hnb30 := NB245_238.out; have hnc30 := NB238_245.out; obtain ⟨hcz31_0, hcz31_1, hfz31_0, hfz31_1⟩ := c2 BK245; obtain ⟨Ao32, co32, eo32⟩ := Kd.R_slice HO243.out; subst eo32; obtain ⟨hcz33_0, hcz33_1, hfz33_0, hfz33_1⟩ := c2 BK234));refine bodyPost_ret (results_ct rfl _ _ gb234 28 #[.int .i64 0, .slice none 0 0] (0, 0) _ rfl (by (with_reducible repeat (first | refine blk_drewN ?_ _ | refine blk_drew ?_ | refine blk_alloc ?_ _)); refine blk_put (cs := #[.int .i64 0, .slice none 0 0]) ?_ 1 _ rfl; (with_reducible repeat (first | refine blk_drewN ?_ _ | refine blk_drew ?_ | refine blk_alloc ?_ _)); refine blk_put (cs := #[.int .i64 x235000_1, .slice none 0 0]) ?_ 0 _ rfl; (with_reducible repeat (first | refine blk_drewN ?_ _ | refine blk_drew ?_ | refine blk_alloc ?_ _)); refine blk_far ?_ NB234_245.out _; (with_reducible repeat (first | refine blk_drewN ?_ _ | refine blk_drew ?_ | refine blk_alloc ?_ _)); refine blk_far ?_ NB234_245.out _; (with_reducible repeat (first | refine blk_drewN ?_ _ | refine blk_drew ?_ | refine blk_alloc ?_ _)); exact BK234.out) Tryd.underlying28 rfl (by kernel_rfl)) rfl ?_;exact ⟨_, by first | rfl | (simp [errW_none, errW_some] <;> rfl) | (simp [*, errW_none, errW_some] <;> rfl), by first | exact Kd.R_nil _ _ _ _ _ | exact Kd.N_nil _ _ _ _ _ | exact Kd.V_nil _ _ _ _ _ | exact Kd.Q_nil _ _ _ _ _ | exact Kd.S_nil _ _ _ _ _, by repeat (first | (with_reducible first | exact HB.out | apply below_alloc | apply pw_below_drewN | apply below_drew1 | refine below_set ?_ GE234.out | refine below_set ?_ GE238.out | refine below_set ?_ GE245.out) | exact HB.out)⟩
     rw [if_neg c11] at H;exact absurd H (by simp)
    rw [if_neg c10] at H;exact absurd H (by simp)
   rw [if_neg c9] at H;have c9b0 : decide (x13_1 < (l0.length : Int)) = false := decide_eq_false c9;clear c9;simp only [Option.some.injEq, Prod.mk.injEq] at H;obtain ⟨rfl, rfl, rfl⟩ := H;have hnb34 := NB238_234.out;have hnc34 := NB234_238.out;obtain ⟨hcz35_0, hcz35_1, hfz35_0, hfz35_1⟩ := c2 BK238;obtain ⟨hcz36_0, hcz36_1, hfz36_0, hfz36_1⟩ := c2 BK234;obtain ⟨Ao37, co37, eo37⟩ := Kd.R_slice HO_239001.out;subst eo37;go_wp2;refine bodyPost_ret (results_ct rfl _ _ gb234 28 #[.int .i64 x239000_1, .slice Ao37 x239001_1.length co37] (0, 0) _ rfl (bp BK234.out (by rfl)) Tryd.underlying28 rfl (by kernel_rfl)) rfl ?_;exact ⟨_, by first | rfl | (simp [errW_none, errW_some] <;> rfl) | (simp [*, errW_none, errW_some] <;> rfl), by exact Kd.R_mono (Kd.R_lax (g := gb234) (Kd.R_types HO_239001.out BK234.out (by decide)) (fun _ hk => hk.2)) (fun _ hk => trivial), by exact bbx (a := gb234) HB.out GE234.out⟩
-- BY HAND: impl_Cat_edition: function 32
end Go.Proofs.YtoohbmoljdfbjaaDoor.P
