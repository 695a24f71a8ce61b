-- made by wip/prt/pp.py over the kit's print
import Derived.Test.YtoohbmoljdfbjaaDoorPx0
import Derived.Test.YtoohbmoljdfbjaaDoorPx3
import Derived.Test.YtoohbmoljdfbjaaDoorCmp
import Derived.Test.YtoohbmoljdfbjaaDoorDel
import Derived.Test.YtoohbmoljdfbjaaDoorFind
namespace Go.Proofs.YtoohbmoljdfbjaaDoor.P
open Go.RowKit Go.Proofs.YtoohbmoljdfbjaaDoorW.PrintWords Go.Proofs.YtoohbmoljdfbjaaDoorW.PrintLast Go.Proofs.YtoohbmoljdfbjaaDoorW.PrintMore
attribute [local go_sem] max2_int min2_int max_two min_two max_three min_three max_four min_four   -- for this text's walks alone
set_option linter.unusedVariables false
set_option linter.unusedSimpArgs false
def impl_Cat_take.f (a0_0 : Int) (l0_1 : List (S33)) (a1 : Int) (a2 : ByteArray) : Option (Int × (List (S33)) × Int) := (impl_cloneCat.f a0_0 l0_1).bind fun bt162 => ((impl_Cat_find.f a0_0 l0_1 a1 a2).bind fun t167 => (if t167 < 0 then (some (bt162.1, bt162.2, 3)) else ((some (([] : List (S33)) : List (S33))).bind fun y168 => ((slices_Delete_Item.f bt162.2 t167 (wrap64 (t167 + 1))).bind fun t171 => (if y168.length + t171.length < 2932031007402 then (some (bt162.1, (y168 ++ t171), 0)) else (none))))))
set_option maxHeartbeats 8000000 in
set_option maxRecDepth 100000 in
theorem impl_Cat_take.calls (a0_0 : Int) (A0_1 : Option Addr) (c0_1 : Nat) (l0_1 : List (S33)) (a1 : Int) (a2 : ByteArray) (r1 : Int) (r2 : List (S33)) (r3 : Int) (w : World) (hr0_1 : Kd.C k33 w A0_1 l0_1.length l0_1) (hc0_1 : l0_1.length ≤ c0_1) (h : impl_Cat_take.f a0_0 l0_1 a1 a2 = some (r1, r2, r3)) :
  Calls Tryd.prog 27 #[.agg #[.int .i64 a0_0, .slice A0_1 l0_1.length c0_1], .int .i64 a1, .string a2] w fun e w' => ∃ v1_ : Value, e = .returned (.tuple #[.agg #[.int .i64 r1, v1_], .int .i64 r3]) ∧ Kd.R k33 33 w' w.heap.size (fun _ => True) v1_ r2 ∧ Below w.heap.size w w' := by
 have hu28 := Tryd.underlying28;have HR0_1 := Aside0.mk hr0_1;have HC0_1 := Aside0.mk hc0_1;clear hr0_1 hc0_1;have HB := Aside0.mk (Below.refl w.heap.size w);have H : ((impl_cloneCat.f a0_0 l0_1).bind fun bt162 => ((impl_Cat_find.f a0_0 l0_1 a1 a2).bind fun t167 => (if t167 < 0 then (some (bt162.1, bt162.2, 3)) else ((some (([] : List (S33)) : List (S33))).bind fun y168 => ((slices_Delete_Item.f bt162.2 t167 (wrap64 (t167 + 1))).bind fun t171 => (if y168.length + t171.length < 2932031007402 then (some (bt162.1, (y168 ++ t171), 0)) else (none))))))) = some (r1, r2, r3) := h;clear h;replace H := Option.bind_eq_some_iff.mp H;obtain ⟨⟨t162, t163⟩, A40, H⟩ := H;replace H : ((impl_Cat_find.f a0_0 l0_1 a1 a2).bind fun t167 => (if t167 < 0 then (some (t162, t163, 3)) else ((some (([] : List (S33)) : List (S33))).bind fun y168 => ((slices_Delete_Item.f t163 t167 (wrap64 (t167 + 1))).bind fun t171 => (if y168.length + t171.length < 2932031007402 then (some (t162, (y168 ++ t171), 0)) else (none)))))) = some (r1, r2, r3) := H;have A4 := Aside0.mk A40;clear A40;replace H := Option.bind_eq_some_iff.mp H;obtain ⟨t167, A50, H⟩ := H;have A5 := Aside0.mk A50;clear A50
 by_cases c6 : t167 < 0
 ·rw [if_pos c6] at H;have c6b0 : decide (t167 < 0) = true := decide_eq_true c6;clear c6;simp only [Option.some.injEq, Prod.mk.injEq] at H;obtain ⟨rfl, rfl, rfl⟩ := H
  go_enter Tryd.func27, Tryd.ntmps27
  go_wp2_with (first | ((with_reducible refine gate_dst (N := 3) rfl ?_); refine bv 3 #[.int .i64 a0_0, .slice A0_1 l0_1.length c0_1] 28 ?_; intro gb160 hg w7 hbox hb; have BK160 := Aside0.mk (hbox); have GW160 := gw HB hg; have GE160 := gw HB hg; replace HB := hbb HB hb; clear hb hbox hg) | ((with_reducible refine gate_dst (N := 6) rfl ?_); refine bv 6 #[.int .i64 0, .slice none 0 0] 28 ?_; intro gb161 hg w8 hbox hb; have BK161 := Aside0.mk (hbox); have GW161 := gw HB hg; have GE161 := gw HB hg; have NB160_161 := nl BK160 hg; have NB161_160 := ng BK160 hg; replace BK160 := kb BK160 hb; replace HB := hbb HB hb; clear hb hbox hg; have hnb9 := NB160_161.out; have hnc9 := NB161_160.out; obtain ⟨hcz10_0, hcz10_1, hfz10_0, hfz10_1⟩ := c2 BK160) | ((with_reducible refine gate_callee (f := 38) rfl ?_); refine gL 11 Tryd.func38 #[.agg #[.int .i64 a0_0, .slice A0_1 l0_1.length c0_1]] ?_; (with_reducible refine (impl_cloneCat.calls a0_0 _ _ l0_1 t162 t163 _ ?side1 ?side2 A4.out).mono ?_); (case side1 => repeat (first | exact (Kd.C_below HR0_1.out HB.out) | (with_reducible refine Kd.C_alloc ?_ _) | (with_reducible refine Kd.C_drewN ?_ _) | (with_reducible refine Kd.C_drew ?_))); (case side2 => exact HC0_1.out); rintro e w11 ⟨v164, rfl, ho0, hb⟩; refine ⟨_, rfl, ?_⟩; have HO165 := Aside0.mk (Kd.R_lower ho0 (below_size (by exact bb HB.out))); replace BK160 := kb BK160 hb; replace BK161 := kb BK161 hb; replace HB := hbb HB hb; (try clear hb); (try clear hb2); (try clear hk); (try clear hi); (try clear ho0)) | ((with_reducible refine gate_dst (N := 8) rfl ?_); refine bv 8 #[.int .i64 0, .slice none 0 0] 28 ?_; intro gb166 hg w12 hbox hb; have BK166 := Aside0.mk (hbox); have GW166 := gw HB hg; have GE166 := gw HB hg; have NB160_166 := nl BK160 hg; have NB166_160 := ng BK160 hg; have NB161_166 := nl BK161 hg; have NB166_161 := ng BK161 hg; replace HO165 := Kd.rR HO165 hb; replace BK160 := kb BK160 hb; replace BK161 := kb BK161 hb; replace HB := hbb HB hb; clear hb hbox hg; have hnb13 := NB166_160.out; have hnc13 := NB160_166.out; have hnb14 := NB166_161.out; have hnc14 := NB161_166.out; obtain ⟨hcz15_0, hcz15_1, hfz15_0, hfz15_1⟩ := c2 BK166; obtain ⟨Ao16, co16, eo16⟩ := Kd.R_slice HO165.out; subst eo16; obtain ⟨hcz17_0, hcz17_1, hfz17_0, hfz17_1⟩ := c2 BK160) | ((with_reducible refine gate_callee (f := 19) rfl ?_); refine gL 15 Tryd.func19 #[.agg #[.int .i64 a0_0, .slice A0_1 l0_1.length c0_1], .int .i64 a1, .string a2] ?_; (with_reducible refine (impl_Cat_find.calls a0_0 _ _ l0_1 a1 a2 t167 _ ?side1 ?side2 A5.out).mono ?_); (case side1 => exact Kd.C_below HR0_1.out (by exact bbx (a := gb166) HB.out GE166.out)); (case side2 => exact HC0_1.out); rintro e w18 ⟨rfl, hb⟩; refine ⟨_, rfl, ?_⟩; replace HO165 := Aside0.mk (Kd.R_below (by exact (Kd.R_mono (Kd.R_lax (g := gb166) (Kd.R_types HO165.out BK166.out (by decide)) (fun _ hk => hk.2)) (fun _ h_ => h_.1))) hb); replace BK160 := kbx (a := gb166) BK160 NB160_166 hb; replace BK161 := kbx (a := gb166) BK161 NB161_166 hb; replace BK166 := Aside0.mk (blk_below (o := .cells #[.int .i64 t162, .slice Ao16 t163.length co16] 28 (0, 0)) (bp BK166.out (by rfl)) hb); replace HB := hbx (a := gb166) HB GE166 hb; (try clear hb); (try clear hb2); (try clear hk); (try clear hi); obtain ⟨hcz19_0, hcz19_1, hfz19_0, hfz19_1⟩ := c2 BK166; obtain ⟨hcz20_0, hcz20_1, hfz20_0, hfz20_1⟩ := c2 BK161));refine bodyPost_ret (results_ct rfl _ _ gb161 28 #[.int .i64 t162, .slice Ao16 t163.length co16] (0, 0) _ rfl (bp BK161.out (by rfl)) Tryd.underlying28 rfl (by kernel_rfl)) rfl ?_;exact ⟨_, by first | rfl | (simp [errW_none, errW_some] <;> rfl) | (simp [*, errW_none, errW_some] <;> rfl), by exact Kd.R_mono (Kd.R_lax (g := gb161) (Kd.R_types HO165.out BK161.out (by decide)) (fun _ hk => hk.2)) (fun _ hk => trivial), by exact bbx (a := gb161) HB.out GE161.out⟩
 ·rw [if_neg c6] at H;have c6b0 : decide (t167 < 0) = false := decide_eq_false c6;clear c6;obtain ⟨y168, hy168⟩ : ∃ y_ : List (S33), y_ = (([] : List (S33))) := ⟨_, rfl⟩;replace H : ((slices_Delete_Item.f t163 t167 (wrap64 (t167 + 1))).bind fun t171 => (if y168.length + t171.length < 2932031007402 then (some (t162, (y168 ++ t171), 0)) else (none))) = some (r1, r2, r3) := by first | (rw [hy168]; with_reducible exact H) | (have H2_ := (Option.bind_some _ _).symm.trans H; rw [hy168]; with_reducible exact H2_) | (have H2_ := (Option.bind_some _ _).symm.trans H; with_reducible exact H2_) | with_reducible exact H | (rw [hy168]; exact H) | exact H
  have Ny168 := Aside0.mk hy168;clear hy168;replace H := Option.bind_eq_some_iff.mp H;obtain ⟨t171, A210, H⟩ := H;have A21 := Aside0.mk A210;clear A210
  by_cases c22 : y168.length + t171.length < 2932031007402
  ·rw [if_pos c22] at H;have LMc22 := Aside0.mk c22;clear c22;obtain ⟨y174, hy174⟩ : ∃ y_ : List (S33), y_ = (y168 ++ t171) := ⟨_, rfl⟩;replace H : (some (t162, y174, 0)) = some (r1, r2, r3) := by first | (rw [hy174]; with_reducible exact H) | (have H2_ := (Option.bind_some _ _).symm.trans H; rw [hy174]; with_reducible exact H2_) | (have H2_ := (Option.bind_some _ _).symm.trans H; with_reducible exact H2_) | with_reducible exact H | (rw [hy174]; exact H) | exact H
   have Ny174 := Aside0.mk hy174;clear hy174;simp only [Option.some.injEq, Prod.mk.injEq] at H;obtain ⟨rfl, rfl, rfl⟩ := H
   go_enter Tryd.func27, Tryd.ntmps27
   go_wp2_with (first | ((with_reducible refine gate_dst (N := 3) rfl ?_); refine bv 3 #[.int .i64 a0_0, .slice A0_1 l0_1.length c0_1] 28 ?_; intro gb160 hg w23 hbox hb; have BK160 := Aside0.mk (hbox); have GW160 := gw HB hg; have GE160 := gw HB hg; replace HB := hbb HB hb; clear hb hbox hg) | ((with_reducible refine gate_dst (N := 6) rfl ?_); refine bv 6 #[.int .i64 0, .slice none 0 0] 28 ?_; intro gb161 hg w24 hbox hb; have BK161 := Aside0.mk (hbox); have GW161 := gw HB hg; have GE161 := gw HB hg; have NB160_161 := nl BK160 hg; have NB161_160 := ng BK160 hg; replace BK160 := kb BK160 hb; replace HB := hbb HB hb; clear hb hbox hg; have hnb25 := NB160_161.out; have hnc25 := NB161_160.out; obtain ⟨hcz26_0, hcz26_1, hfz26_0, hfz26_1⟩ := c2 BK160) | ((with_reducible refine gate_callee (f := 38) rfl ?_); refine gL 11 Tryd.func38 #[.agg #[.int .i64 a0_0, .slice A0_1 l0_1.length c0_1]] ?_; (with_reducible refine (impl_cloneCat.calls a0_0 _ _ l0_1 t162 t163 _ ?side1 ?side2 A4.out).mono ?_); (case side1 => repeat (first | exact (Kd.C_below HR0_1.out HB.out) | (with_reducible refine Kd.C_alloc ?_ _) | (with_reducible refine Kd.C_drewN ?_ _) | (with_reducible refine Kd.C_drew ?_))); (case side2 => exact HC0_1.out); rintro e w27 ⟨v164, rfl, ho0, hb⟩; refine ⟨_, rfl, ?_⟩; have HO165 := Aside0.mk (Kd.R_lower ho0 (below_size (by exact bb HB.out))); replace BK160 := kb BK160 hb; replace BK161 := kb BK161 hb; replace HB := hbb HB hb; (try clear hb); (try clear hb2); (try clear hk); (try clear hi); (try clear ho0)) | ((with_reducible refine gate_dst (N := 8) rfl ?_); refine bv 8 #[.int .i64 0, .slice none 0 0] 28 ?_; intro gb166 hg w28 hbox hb; have BK166 := Aside0.mk (hbox); have GW166 := gw HB hg; have GE166 := gw HB hg; have NB160_166 := nl BK160 hg; have NB166_160 := ng BK160 hg; have NB161_166 := nl BK161 hg; have NB166_161 := ng BK161 hg; replace HO165 := Kd.rR HO165 hb; replace BK160 := kb BK160 hb; replace BK161 := kb BK161 hb; replace HB := hbb HB hb; clear hb hbox hg; have hnb29 := NB166_160.out; have hnc29 := NB160_166.out; have hnb30 := NB166_161.out; have hnc30 := NB161_166.out; obtain ⟨hcz31_0, hcz31_1, hfz31_0, hfz31_1⟩ := c2 BK166; obtain ⟨Ao32, co32, eo32⟩ := Kd.R_slice HO165.out; subst eo32; obtain ⟨hcz33_0, hcz33_1, hfz33_0, hfz33_1⟩ := c2 BK160) | ((with_reducible refine gate_callee (f := 19) rfl ?_); refine gL 15 Tryd.func19 #[.agg #[.int .i64 a0_0, .slice A0_1 l0_1.length c0_1], .int .i64 a1, .string a2] ?_; (with_reducible refine (impl_Cat_find.calls a0_0 _ _ l0_1 a1 a2 t167 _ ?side1 ?side2 A5.out).mono ?_); (case side1 => exact Kd.C_below HR0_1.out (by exact bbx (a := gb166) HB.out GE166.out)); (case side2 => exact HC0_1.out); rintro e w34 ⟨rfl, hb⟩; refine ⟨_, rfl, ?_⟩; replace HO165 := Aside0.mk (Kd.R_below (by exact (Kd.R_mono (Kd.R_lax (g := gb166) (Kd.R_types HO165.out BK166.out (by decide)) (fun _ hk => hk.2)) (fun _ h_ => h_.1))) hb); replace BK160 := kbx (a := gb166) BK160 NB160_166 hb; replace BK161 := kbx (a := gb166) BK161 NB161_166 hb; replace BK166 := Aside0.mk (blk_below (o := .cells #[.int .i64 t162, .slice Ao32 t163.length co32] 28 (0, 0)) (bp BK166.out (by rfl)) hb); replace HB := hbx (a := gb166) HB GE166 hb; (try clear hb); (try clear hb2); (try clear hk); (try clear hi)) | ((with_reducible refine gate_dst (N := 19) rfl ?_); refine rL k33 33 19 ([] : List (S33)) [] ?_; intro v169 w35 ho36 hb hg_ hnew_; clear hg_ hnew_; (first | rw [← Ny168.out] at ho36 | (simp only [Int.reduceToNat] at ho36; rw [← Ny168.out] at ho36)); have HO170 := Aside0.mk (Kd.R_lower (Kd.R_new' ho36 (Kd.R_lt (by exact rl HO165))) (below_size (by exact bb HB.out))); replace HO165 := Aside0.mk (Kd.R_elder' (by exact rl HO165) (Kd.R_base ho36) hb); replace BK160 := kb BK160 hb; replace BK161 := kb BK161 hb; replace BK166 := kb BK166 hb; replace HB := hbb HB hb; clear hb ho36; obtain ⟨hcz37_0, hcz37_1, hfz37_0, hfz37_1⟩ := c2 BK166) | ((with_reducible refine gate_callee (f := 39) rfl ?_); refine gL 25 Tryd.func39 #[.slice Ao32 t163.length co32, .int .i64 t167, .int .i64 (wrap64 (t167 + 1))] ?_; (with_reducible refine (slices_Delete_Item.calls (fun k_ => some k_ = (.slice Ao32 t163.length co32 : Value).ownBlock) (.slice Ao32 t163.length co32) t163 t167 (wrap64 (t167 + 1)) t171 w _ ?side1 ?side2 A21.out).mono ?_); (case side1 => exact bb HB.out); (case side2 => exact Kd.R_tight rfl HO165.out); rintro e w38 ⟨v172, rfl, ho0, hb, hkp⟩; refine ⟨_, rfl, ?_⟩; have HO173 := Aside0.mk (Kd.R_mono (ok' := fun k_ => some k_ ≠ (v169 : Value).ownBlock) ho0 (fun k_ hk_ => Or.elim hk_ (fun hs_ => fun e_ => (((HO170.out).1 k_ e_.symm).2) hs_) (fun hn_ => (Kd.fresh' (Kd.R_lt (by exact rl HO170)) k_ hn_)))); replace BK160 := Aside0.mk (blk_kept (bl BK160.out) hkp (fun hs_ => (fun e_ => (Kd.R_ne HO165.out BK160.out (by decide)) e_) hs_)); replace BK161 := Aside0.mk (blk_kept (bl BK161.out) hkp (fun hs_ => (fun e_ => (Kd.R_ne HO165.out BK161.out (by decide)) e_) hs_)); replace BK166 := Aside0.mk (blk_kept (bl BK166.out) hkp (fun hs_ => (fun e_ => (Kd.R_ne HO165.out BK166.out (by decide)) e_) hs_)); replace HO170 := Aside0.mk (Kd.R_mono (ok' := fun k_ => some k_ ≠ (v172 : Value).ownBlock) (Kd.R_keptB (HO170.out) hkp (fun k_ hk_ hs_ => (hk_.2) hs_)) (fun k_ hk_ => fun e_ => Or.elim (ho0.1 k_ e_.symm) (fun hs_ => hk_.2.1 hs_) (fun hn_ => Nat.not_le.2 hk_.2.2 hn_))); replace HB := Aside0.mk (hb); clear HO165; (try clear hb); (try clear hkp); (try clear ho0); obtain ⟨Ao40, co40, eo40⟩ := Kd.R_slice HO173.out; subst eo40) | ((with_reducible refine gate_builtin (b := .append) (xs := #[.tmp 19, .tmp 25]) rfl ?_); at_builtin; refine Kd.R_append_rows k33 (w0 := w) w.heap.size rfl (.tmp 19) (.tmp 25) 26 33 (.agg #[(.int .i64 0), (.string ⟨#[]⟩), (.int .i64 0), (.string ⟨#[]⟩)]) 48 rfl Tryd.underlying26 info33 rfl (by decide) (by omega) v169 y168 t171 _ _ _ (fun k_ => some k_ ≠ (.slice Ao40 t171.length co40 : Value).ownBlock) (fun _ => False) rfl rfl ?aO ?aR (fun _ _ h => h) (fun _ h => h.elim) ?aF ?aB ?aS ?aL ?_; (case aR => exact Kd.cR HO173); (case aB => exact (by exact bb HB.out)); (case aF => exact (fun k_ hk => Kd.fresh' (Kd.R_lt (by exact rl HO173)) k_ hk)); (case aO => exact (by exact rl HO170)); (case aS => exact (below_size (by exact bb HB.out))); (case aL => have := LMc22.out; omega); intro v175 w39 ho hb hg hat; rw [← Ny174.out] at ho; have HO176 := Aside0.mk (ho); replace BK160 := Aside0.mk (blk_grown (bl BK160.out) hg (Kd.R_ne HO170.out BK160.out (by decide))); replace BK161 := Aside0.mk (blk_grown (bl BK161.out) hg (Kd.R_ne HO170.out BK161.out (by decide))); replace BK166 := Aside0.mk (blk_grown (bl BK166.out) hg (Kd.R_ne HO170.out BK166.out (by decide))); replace HO173 := Aside0.mk (Kd.R_after (ok := (fun _ => True)) (by exact Kd.R_lat (Kd.R_mono HO173.out (fun _ hk => ⟨trivial, hk⟩))) hg hat); replace HB := Aside0.mk (hb); clear HO170; clear ho hb hg hat; obtain ⟨Ao41, co41, eo41⟩ := Kd.R_slice HO176.out; subst eo41; obtain ⟨hcz42_0, hcz42_1, hfz42_0, hfz42_1⟩ := c2 BK166; obtain ⟨hcz43_0, hcz43_1, hfz43_0, hfz43_1⟩ := c2 BK161));refine bodyPost_ret (results_ct rfl _ _ gb161 28 #[.int .i64 t162, .slice Ao41 y174.length co41] (0, 0) _ rfl (by (with_reducible repeat (first | refine blk_drewN ?_ _ | refine blk_drew ?_ | refine blk_alloc ?_ _)); refine blk_put (cs := #[.int .i64 t162, .slice none 0 0]) ?_ 1 _ rfl; (with_reducible repeat (first | refine blk_drewN ?_ _ | refine blk_drew ?_ | refine blk_alloc ?_ _)); refine blk_put (cs := #[.int .i64 0, .slice none 0 0]) ?_ 0 _ rfl; (with_reducible repeat (first | refine blk_drewN ?_ _ | refine blk_drew ?_ | refine blk_alloc ?_ _)); refine blk_far ?_ NB161_166.out _; (with_reducible repeat (first | refine blk_drewN ?_ _ | refine blk_drew ?_ | refine blk_alloc ?_ _)); exact BK161.out) Tryd.underlying28 rfl (by kernel_rfl)) rfl ?_;exact ⟨_, by first | rfl | (simp [errW_none, errW_some] <;> rfl) | (simp [*, errW_none, errW_some] <;> rfl), by (with_reducible repeat (first | apply Kd.R_alloc | apply Kd.R_drewN | apply Kd.R_drew)); exact Kd.R_mono (Kd.R_far (p := ⟨gb161, 1, none⟩) (Kd.R_far (p := ⟨gb161, 0, none⟩) (Kd.R_far (p := ⟨gb166, 1, none⟩) (Kd.R_types (Kd.R_types HO176.out BK166.out (by decide)) BK161.out (by decide)) (fun _ hk => hk.1.2) (.slice Ao41 y174.length co41)) (fun _ hk => hk.2) (.int .i64 t162)) (fun _ hk => hk.2) (.slice Ao41 y174.length co41)) (fun _ hk => trivial), by repeat (first | (with_reducible first | exact HB.out | apply below_alloc | apply pw_below_drewN | apply below_drew1 | refine below_set ?_ GE160.out | refine below_set ?_ GE161.out | refine below_set ?_ GE166.out) | exact HB.out)⟩
  rw [if_neg c22] at H;exact absurd H (by simp)
def impl_publishable.j0 : Nat → Bool → Option (Bool)
 | 0, _ => none
 | k + 1, x6 => some x6
def impl_publishable.f (k : Nat) (a0 : Int) (a1 : ByteArray) (a2 : ByteArray) : Option (Bool) := (impl_house.f a0).bind fun t177 => (if t177 = true then ((impl_NameOk.f k a1).bind fun t178 => (if t178 = true then ((impl_within.f (a2.size : Int) 1 300).bind fun t179 => (impl_publishable.j0 k t179)) else (impl_publishable.j0 k false))) else (impl_publishable.j0 k false))
theorem impl_publishable.mono_l : ∀ k, (∀ y0, LeO (impl_publishable.j0 k y0) (impl_publishable.j0 (k + 1) y0))
 | 0 => fun _ r h => by simp [impl_publishable.j0] at h
 | k + 1 => by
  have ih0 := impl_publishable.mono_l k;intro y0;unfold impl_publishable.j0
  repeat' first
  | (with_reducible exact ih0 _)
  | (with_reducible exact impl_NameOk.mono _ _)
  | (with_reducible exact LeO.refl _)
  | (with_reducible exact LeO.none _)
  | (with_reducible refine LeO.ite ?_ ?_)
  | (with_reducible refine LeO.bind ?_ (fun _ => ?_))
  | exact LeO.none _
  | refine LeO.ite ?_ ?_
  | refine LeO.bind ?_ (fun _ => ?_)
theorem impl_publishable.mono : ∀ a0 a1 a2 k, LeO (impl_publishable.f k a0 a1 a2) (impl_publishable.f (k + 1) a0 a1 a2) := by
 intro a0 a1 a2 k;have ih0 := impl_publishable.mono_l k;unfold impl_publishable.f
 repeat' first
   | (with_reducible exact ih0 _)
   | (with_reducible exact impl_NameOk.mono _ _)
   | (with_reducible exact LeO.refl _)
   | (with_reducible exact LeO.none _)
   | (with_reducible refine LeO.ite ?_ ?_)
   | (with_reducible refine LeO.bind ?_ (fun _ => ?_))
   | exact LeO.none _
   | refine LeO.ite ?_ ?_
   | refine LeO.bind ?_ (fun _ => ?_)
set_option maxHeartbeats 8000000 in
set_option maxRecDepth 100000 in
theorem impl_publishable.calls (k : Nat) (a0 : Int) (a1 : ByteArray) (a2 : ByteArray) (r : Bool) (w : World) (h : impl_publishable.f k a0 a1 a2 = some r) :
  Calls Tryd.prog 31 #[.int .i64 a0, .string a1, .string a2] w fun e w' => e = .returned (.bool r) ∧ Drawn0 w w' := by
 have H : ((impl_house.f a0).bind fun t177 => (if t177 = true then ((impl_NameOk.f k a1).bind fun t178 => (if t178 = true then ((impl_within.f (a2.size : Int) 1 300).bind fun t179 => (impl_publishable.j0 k t179)) else (impl_publishable.j0 k false))) else (impl_publishable.j0 k false))) = some r := h;clear h;have HC4 := Aside0.mk H;clear H
 go_enter Tryd.func31, Tryd.ntmps31
 go_upto_region 1 with (fail)
 go_cut [6] (fun v6 wc => ∃ (kq : Nat) (x6_3 : Bool), v6 = .bool x6_3 ∧ Aside0 (impl_publishable.j0 kq x6_3 = some r) ∧ Aside0 (kq ≤ k) ∧ Drawn0 w wc)
 case first =>
  have H := HC4.out;clear HC4;replace H := Option.bind_eq_some_iff.mp H;obtain ⟨t177, A50, H⟩ := H;have A5 := Aside0.mk A50;clear A50
  by_cases c6 : t177 = true
  ·subst c6;rw [if_pos rfl] at H;replace H := Option.bind_eq_some_iff.mp H;obtain ⟨t178, A70, H⟩ := H;have A7 := Aside0.mk A70;clear A70
   by_cases c8 : t178 = true
   ·subst c8;rw [if_pos rfl] at H;replace H := Option.bind_eq_some_iff.mp H;obtain ⟨t179, A90, H⟩ := H;have A9 := Aside0.mk A90;clear A90;have H' := Aside0.mk H;clear H;go_wp2_with (first | ((with_reducible refine gate_callee (f := 13) rfl ?_); refine gL 8 Tryd.func13 #[.int .i64 a0] ?_; (with_reducible refine (impl_house.calls a0 true _ A5.out).mono ?_); rintro e w' ⟨rfl, ⟨nd, rfl⟩⟩; refine ⟨_, rfl, ?_⟩) | (go_at_call 14; (with_reducible refine (impl_NameOk.calls k a1 true _ A7.out).mono ?_); rintro e w' ⟨rfl, ⟨nd, rfl⟩⟩) | (go_at_call 21; (with_reducible refine (impl_within.calls (a2.size : Int) 1 300 t179 _ A9.out).mono ?_); rintro e w' ⟨rfl, ⟨nd, rfl⟩⟩))
    go_meet
    case rel => exact ⟨_, (t179), rs, H', ⟨by first | omega | exact Nat.le_refl _⟩, by repeat (first | exact Drawn0.refl _ | apply Drawn0.step)⟩
   replace c8 := Bool.eq_false_iff.mpr c8;subst c8;rw [if_neg (show ¬ (false = true) by decide)] at H;have H' := Aside0.mk H;clear H;go_wp2_with (first | ((with_reducible refine gate_callee (f := 13) rfl ?_); refine gL 8 Tryd.func13 #[.int .i64 a0] ?_; (with_reducible refine (impl_house.calls a0 true _ A5.out).mono ?_); rintro e w' ⟨rfl, ⟨nd, rfl⟩⟩; refine ⟨_, rfl, ?_⟩) | (go_at_call 14; (with_reducible refine (impl_NameOk.calls k a1 false _ A7.out).mono ?_); rintro e w' ⟨rfl, ⟨nd, rfl⟩⟩))
   go_meet
   case rel => exact ⟨_, (false), rs, H', ⟨by first | omega | exact Nat.le_refl _⟩, by repeat (first | exact Drawn0.refl _ | apply Drawn0.step)⟩
  replace c6 := Bool.eq_false_iff.mpr c6;subst c6;rw [if_neg (show ¬ (false = true) by decide)] at H;have H' := Aside0.mk H;clear H;go_wp2_with (first | ((with_reducible refine gate_callee (f := 13) rfl ?_); refine gL 8 Tryd.func13 #[.int .i64 a0] ?_; (with_reducible refine (impl_house.calls a0 false _ A5.out).mono ?_); rintro e w' ⟨rfl, ⟨nd, rfl⟩⟩; refine ⟨_, rfl, ?_⟩))
  go_meet
  case rel => exact ⟨_, (false), rs, H', ⟨by first | omega | exact Nat.le_refl _⟩, by repeat (first | exact Drawn0.refl _ | apply Drawn0.step)⟩
 case rest =>
  clear HC4;try clear c1
  try clear p2
  try clear c3
  try clear c6
  try clear c8
  obtain ⟨kq, x6_3, rfl, HA, HJ3, ⟨mc3, rfl⟩⟩ := hcut
  cases kq with
  | zero => exact absurd HA.out (by simp [impl_publishable.j0])
  | succ kj3 =>
   have H := HA.out;clear HA;simp only [impl_publishable.j0] at H;obtain rfl := Option.some.inj H;go_wp2;go_ret;exact ⟨by first | rfl | (simp; done) | (simp [*]; done), by repeat (first | exact Drawn0.refl _ | apply Drawn0.step)⟩
def cmp_Or_int.l0 : Nat → Int → List Int → Int → Int → Option (Int)
 | 0, _, _, _, _ => none
 | k + 1, x3, x6, x7, x8 => if x8 < x7 then (if 0 ≤ x8 then (if x8 < (x6.length : Int) then (if (rd x6 x8) = x3 then (cmp_Or_int.l0 k x3 x6 x7 (wrap64 (x8 + 1))) else (some (rd x6 x8))) else (none)) else (none)) else (some x3)
def cmp_Or_int.f (k : Nat) (l0 : List Int) : Option (Int) := cmp_Or_int.l0 k 0 l0 (l0.length : Int) 0
theorem cmp_Or_int.mono_l : ∀ k, (∀ y0 y1 y2 y3, LeO (cmp_Or_int.l0 k y0 y1 y2 y3) (cmp_Or_int.l0 (k + 1) y0 y1 y2 y3))
 | 0 => fun _ _ _ _ r h => by simp [cmp_Or_int.l0] at h
 | k + 1 => by
  have ih0 := cmp_Or_int.mono_l k;intro y0 y1 y2 y3;unfold cmp_Or_int.l0
  repeat' first
  | (with_reducible exact ih0 _ _ _ _)
  | (with_reducible exact LeO.refl _)
  | (with_reducible exact LeO.none _)
  | (with_reducible refine LeO.ite ?_ ?_)
  | (with_reducible refine LeO.bind ?_ (fun _ => ?_))
  | exact LeO.none _
  | refine LeO.ite ?_ ?_
  | refine LeO.bind ?_ (fun _ => ?_)
theorem cmp_Or_int.mono : ∀ a0 k, LeO (cmp_Or_int.f k a0) (cmp_Or_int.f (k + 1) a0) := by
 intro a0 k;have ih0 := cmp_Or_int.mono_l k;unfold cmp_Or_int.f
 repeat' first
   | (with_reducible exact ih0 _ _ _ _)
   | (with_reducible exact LeO.refl _)
   | (with_reducible exact LeO.none _)
   | (with_reducible refine LeO.ite ?_ ?_)
   | (with_reducible refine LeO.bind ?_ (fun _ => ?_))
   | exact LeO.none _
   | refine LeO.ite ?_ ?_
   | refine LeO.bind ?_ (fun _ => ?_)
set_option maxHeartbeats 8000000 in
set_option maxRecDepth 100000 in
theorem cmp_Or_int.calls (k : Nat) (A0 : Option Addr) (c0 : Nat) (l0 : List Int) (r : Int) (w : World) (hr0 : Kd.C (Kd.int .i64) w A0 l0.length l0) (hc0 : l0.length ≤ c0) (h : cmp_Or_int.f k l0 = some r) :
  Calls Tryd.prog 42 #[.slice A0 l0.length c0] w fun e w' => e = .returned (.int .i64 r) ∧ Drawn0 w w' := by
 have HR0 := Aside0.mk hr0;have HC0 := Aside0.mk hc0;clear hr0 hc0;have H : (cmp_Or_int.l0 k 0 l0 (l0.length : Int) 0) = some r := h;clear h;have H' := Aside0.mk H;clear H
 go_enter Tryd.func42, Tryd.ntmps42
 go_wp2
 go_loopg [8] k (fun kq v8 w' => ∃ (x8_1 : Int), v8 = .int .i64 x8_1 ∧ Aside0 (cmp_Or_int.l0 kq 0 l0 (l0.length : Int) x8_1 = some r) ∧ Aside0 (kq ≤ k) ∧ Drawn0 w w')
 case atStart => exact ⟨(0), rs, H', ⟨Nat.le_refl _⟩, by repeat (first | exact Drawn0.refl _ | apply Drawn0.step)⟩
 case round =>
  clear H';obtain ⟨x8_1, rfl, HA, HK1, ⟨m1, rfl⟩⟩ := hrel
  cases gk with
  | zero => exact absurd HA.out (by simp [cmp_Or_int.l0])
  | succ k1 =>
   have H := HA.out;clear HA;simp only [cmp_Or_int.l0] at H
   by_cases c2 : x8_1 < (l0.length : Int)
   ·rw [if_pos c2] at H;have c2b0 : decide (x8_1 < (l0.length : Int)) = true := decide_eq_true c2;clear c2
    by_cases c3 : 0 ≤ x8_1
    ·rw [if_pos c3] at H;have c3b0 : decide (0 ≤ x8_1) = true := decide_eq_true c3;clear c3
     by_cases c4 : x8_1 < (l0.length : Int)
     ·rw [if_pos c4] at H;have c4b0 : decide (x8_1 < (l0.length : Int)) = true := decide_eq_true c4;clear c4
      by_cases c5 : (rd l0 x8_1) = 0
      ·rw [if_pos c5] at H;have c5b0 : ((rd l0 x8_1) == 0) = true := beq_iff_eq.mpr c5;have c5b1 : ((rd l0 x8_1) != 0) = false := bne_eq_false_iff_eq.mpr c5;clear c5;have H' := Aside0.mk H;clear H;have p180 : 0 ≤ (x8_1 : Int) := of_decide_eq_true am;have q180 : x8_1 < (l0.length : Int) := of_decide_eq_true am;obtain ⟨ad180, e180, hx180_0⟩ := Kd.at_int HR0.out x8_1 p180 q180;cases e180;replace p180 := eq_true p180;replace q180 := eq_true q180;go_wp2
       go_roundg k1
       case measure => have := HK1.out; omega
       case rel => exact ⟨(wrap64 (x8_1 + 1)), rs, H', ⟨by have := HK1.out; omega⟩, by repeat (first | exact Drawn0.refl _ | apply Drawn0.step)⟩
      rw [if_neg c5] at H;have c5b0 : ((rd l0 x8_1) == 0) = false := beq_eq_false_iff_ne.mpr c5;have c5b1 : ((rd l0 x8_1) != 0) = true := bne_iff_ne.mpr c5;obtain rfl := Option.some.inj H;have p180 : 0 ≤ (x8_1 : Int) := of_decide_eq_true am;have q180 : x8_1 < (l0.length : Int) := of_decide_eq_true am;obtain ⟨ad180, e180, hx180_0⟩ := Kd.at_int HR0.out x8_1 p180 q180;cases e180;replace p180 := eq_true p180;replace q180 := eq_true q180;go_wp2;go_ret;exact ⟨by first | rfl | (simp; done) | (simp [*]; done), by repeat (first | exact Drawn0.refl _ | apply Drawn0.step)⟩
     rw [if_neg c4] at H;exact absurd H (by simp)
    rw [if_neg c3] at H;exact absurd H (by simp)
   rw [if_neg c2] at H;have c2b0 : decide (x8_1 < (l0.length : Int)) = false := decide_eq_false c2;clear c2;obtain rfl := Option.some.inj H;go_wp2;go_ret;exact ⟨by first | rfl | (simp; done) | (simp [*]; done), by repeat (first | exact Drawn0.refl _ | apply Drawn0.step)⟩
def cmp_isNaN_int.f (a0 : Int) : Option (Bool) := some (a0 != a0)
set_option maxHeartbeats 8000000 in
set_option maxRecDepth 100000 in
theorem cmp_isNaN_int.calls (a0 : Int) (r : Bool) (w : World) (h : cmp_isNaN_int.f a0 = some r) :
  Calls Tryd.prog 54 #[.int .i64 a0] w fun e w' => e = .returned (.bool r) ∧ Drawn0 w w' := by
 have H : (some (a0 != a0)) = some r := h;clear h;obtain rfl := Option.some.inj H
 go_enter Tryd.func54, Tryd.ntmps54
 go_wp2;go_ret;exact ⟨by first | rfl | (simp; done) | (simp [*]; done), by repeat (first | exact Drawn0.refl _ | apply Drawn0.step)⟩
def cmp_Compare_int.f (a0 : Int) (a1 : Int) : Option (Int) := (cmp_isNaN_int.f a0).bind fun t181 => ((cmp_isNaN_int.f a1).bind fun t182 => (if t181 = true then (if t182 = true then (some 0) else (some (-1))) else (if t182 = true then (some 1) else (if a0 < a1 then (some (-1)) else (if a0 > a1 then (some 1) else (some 0))))))
set_option maxHeartbeats 8000000 in
set_option maxRecDepth 100000 in
theorem cmp_Compare_int.calls (a0 : Int) (a1 : Int) (r : Int) (w : World) (h : cmp_Compare_int.f a0 a1 = some r) :
  Calls Tryd.prog 43 #[.int .i64 a0, .int .i64 a1] w fun e w' => e = .returned (.int .i64 r) ∧ Drawn0 w w' := by
 have H : ((cmp_isNaN_int.f a0).bind fun t181 => ((cmp_isNaN_int.f a1).bind fun t182 => (if t181 = true then (if t182 = true then (some 0) else (some (-1))) else (if t182 = true then (some 1) else (if a0 < a1 then (some (-1)) else (if a0 > a1 then (some 1) else (some 0))))))) = some r := h;clear h;replace H := Option.bind_eq_some_iff.mp H;obtain ⟨t181, A30, H⟩ := H;have A3 := Aside0.mk A30;clear A30;replace H := Option.bind_eq_some_iff.mp H;obtain ⟨t182, A40, H⟩ := H;have A4 := Aside0.mk A40;clear A40
 by_cases c5 : t181 = true
 ·subst c5;rw [if_pos rfl] at H
  by_cases c6 : t182 = true
  ·subst c6;rw [if_pos rfl] at H;obtain rfl := Option.some.inj H
   go_enter Tryd.func43, Tryd.ntmps43
   go_wp2_with (first | ((with_reducible refine gate_callee (f := 54) rfl ?_); refine gL 8 Tryd.func54 #[.int .i64 a0] ?_; (with_reducible refine (cmp_isNaN_int.calls a0 true _ A3.out).mono ?_); rintro e w' ⟨rfl, ⟨nd, rfl⟩⟩; refine ⟨_, rfl, ?_⟩) | ((with_reducible refine gate_callee (f := 54) rfl ?_); refine gL 10 Tryd.func54 #[.int .i64 a1] ?_; (with_reducible refine (cmp_isNaN_int.calls a1 true _ A4.out).mono ?_); rintro e w' ⟨rfl, ⟨nd, rfl⟩⟩; refine ⟨_, rfl, ?_⟩));go_ret;exact ⟨by first | rfl | (simp; done) | (simp [*]; done), by repeat (first | exact Drawn0.refl _ | apply Drawn0.step)⟩
  replace c6 := Bool.eq_false_iff.mpr c6;subst c6;rw [if_neg (show ¬ (false = true) by decide)] at H;obtain rfl := Option.some.inj H
  go_enter Tryd.func43, Tryd.ntmps43
  go_wp2_with (first | ((with_reducible refine gate_callee (f := 54) rfl ?_); refine gL 8 Tryd.func54 #[.int .i64 a0] ?_; (with_reducible refine (cmp_isNaN_int.calls a0 true _ A3.out).mono ?_); rintro e w' ⟨rfl, ⟨nd, rfl⟩⟩; refine ⟨_, rfl, ?_⟩) | ((with_reducible refine gate_callee (f := 54) rfl ?_); refine gL 10 Tryd.func54 #[.int .i64 a1] ?_; (with_reducible refine (cmp_isNaN_int.calls a1 false _ A4.out).mono ?_); rintro e w' ⟨rfl, ⟨nd, rfl⟩⟩; refine ⟨_, rfl, ?_⟩));go_ret;exact ⟨by first | rfl | (simp; done) | (simp [*]; done), by repeat (first | exact Drawn0.refl _ | apply Drawn0.step)⟩
 replace c5 := Bool.eq_false_iff.mpr c5;subst c5;rw [if_neg (show ¬ (false = true) by decide)] at H
 by_cases c7 : t182 = true
 ·subst c7;rw [if_pos rfl] at H;obtain rfl := Option.some.inj H
  go_enter Tryd.func43, Tryd.ntmps43
  go_wp2_with (first | ((with_reducible refine gate_callee (f := 54) rfl ?_); refine gL 8 Tryd.func54 #[.int .i64 a0] ?_; (with_reducible refine (cmp_isNaN_int.calls a0 false _ A3.out).mono ?_); rintro e w' ⟨rfl, ⟨nd, rfl⟩⟩; refine ⟨_, rfl, ?_⟩) | ((with_reducible refine gate_callee (f := 54) rfl ?_); refine gL 10 Tryd.func54 #[.int .i64 a1] ?_; (with_reducible refine (cmp_isNaN_int.calls a1 true _ A4.out).mono ?_); rintro e w' ⟨rfl, ⟨nd, rfl⟩⟩; refine ⟨_, rfl, ?_⟩));go_ret;exact ⟨by first | rfl | (simp; done) | (simp [*]; done), by repeat (first | exact Drawn0.refl _ | apply Drawn0.step)⟩
 replace c7 := Bool.eq_false_iff.mpr c7;subst c7;rw [if_neg (show ¬ (false = true) by decide)] at H
 by_cases c8 : a0 < a1
 ·rw [if_pos c8] at H;have c8b0 : decide (a0 < a1) = true := decide_eq_true c8;clear c8;obtain rfl := Option.some.inj H
  go_enter Tryd.func43, Tryd.ntmps43
  go_wp2_with (first | ((with_reducible refine gate_callee (f := 54) rfl ?_); refine gL 8 Tryd.func54 #[.int .i64 a0] ?_; (with_reducible refine (cmp_isNaN_int.calls a0 false _ A3.out).mono ?_); rintro e w' ⟨rfl, ⟨nd, rfl⟩⟩; refine ⟨_, rfl, ?_⟩) | ((with_reducible refine gate_callee (f := 54) rfl ?_); refine gL 10 Tryd.func54 #[.int .i64 a1] ?_; (with_reducible refine (cmp_isNaN_int.calls a1 false _ A4.out).mono ?_); rintro e w' ⟨rfl, ⟨nd, rfl⟩⟩; refine ⟨_, rfl, ?_⟩));go_ret;exact ⟨by first | rfl | (simp; done) | (simp [*]; done), by repeat (first | exact Drawn0.refl _ | apply Drawn0.step)⟩
 rw [if_neg c8] at H;have c8b0 : decide (a0 < a1) = false := decide_eq_false c8;clear c8
 by_cases c9 : a0 > a1
 ·rw [if_pos c9] at H;have c9b0 : decide (a1 < a0) = true := decide_eq_true c9;clear c9;obtain rfl := Option.some.inj H
  go_enter Tryd.func43, Tryd.ntmps43
  go_wp2_with (first | ((with_reducible refine gate_callee (f := 54) rfl ?_); refine gL 8 Tryd.func54 #[.int .i64 a0] ?_; (with_reducible refine (cmp_isNaN_int.calls a0 false _ A3.out).mono ?_); rintro e w' ⟨rfl, ⟨nd, rfl⟩⟩; refine ⟨_, rfl, ?_⟩) | ((with_reducible refine gate_callee (f := 54) rfl ?_); refine gL 10 Tryd.func54 #[.int .i64 a1] ?_; (with_reducible refine (cmp_isNaN_int.calls a1 false _ A4.out).mono ?_); rintro e w' ⟨rfl, ⟨nd, rfl⟩⟩; refine ⟨_, rfl, ?_⟩));go_ret;exact ⟨by first | rfl | (simp; done) | (simp [*]; done), by repeat (first | exact Drawn0.refl _ | apply Drawn0.step)⟩
 rw [if_neg c9] at H;have c9b0 : decide (a1 < a0) = false := decide_eq_false c9;clear c9;obtain rfl := Option.some.inj H
 go_enter Tryd.func43, Tryd.ntmps43
 go_wp2_with (first | ((with_reducible refine gate_callee (f := 54) rfl ?_); refine gL 8 Tryd.func54 #[.int .i64 a0] ?_; (with_reducible refine (cmp_isNaN_int.calls a0 false _ A3.out).mono ?_); rintro e w' ⟨rfl, ⟨nd, rfl⟩⟩; refine ⟨_, rfl, ?_⟩) | ((with_reducible refine gate_callee (f := 54) rfl ?_); refine gL 10 Tryd.func54 #[.int .i64 a1] ?_; (with_reducible refine (cmp_isNaN_int.calls a1 false _ A4.out).mono ?_); rintro e w' ⟨rfl, ⟨nd, rfl⟩⟩; refine ⟨_, rfl, ?_⟩));go_ret;exact ⟨by first | rfl | (simp; done) | (simp [*]; done), by repeat (first | exact Drawn0.refl _ | apply Drawn0.step)⟩
-- BY HAND: cmp_Compare_string: function 44
def impl_itemOrder.f (k : Nat) (a0_0 : Int) (a0_1 : ByteArray) (a0_2 : Int) (a0_3 : ByteArray) (a1_0 : Int) (a1_1 : ByteArray) (a1_2 : Int) (a1_3 : ByteArray) : Option (Int) := (cmp_Compare_int.f a0_0 a1_0).bind fun t185 => ((cmp_Compare_string.f a0_1 a1_1).bind fun t186 => ((cmp_Or_int.f k (([t185, t186] : List Int))).bind fun t190 => (some t190)))
theorem impl_itemOrder.mono : ∀ a0 a1 a2 a3 a4 a5 a6 a7 k, LeO (impl_itemOrder.f k a0 a1 a2 a3 a4 a5 a6 a7) (impl_itemOrder.f (k + 1) a0 a1 a2 a3 a4 a5 a6 a7) := by
 intro a0 a1 a2 a3 a4 a5 a6 a7 k;unfold impl_itemOrder.f
 repeat' first
   | (with_reducible exact cmp_Or_int.mono _ _)
   | (with_reducible exact LeO.refl _)
   | (with_reducible exact LeO.none _)
   | (with_reducible refine LeO.ite ?_ ?_)
   | (with_reducible refine LeO.bind ?_ (fun _ => ?_))
   | exact LeO.none _
   | refine LeO.ite ?_ ?_
   | refine LeO.bind ?_ (fun _ => ?_)
def impl_itemOrder.T1 : Bool × List (List Nat × List Nat) := (true, [([], []), ([0], [0]), ([], []), ([2], [2]), ([1, 3], [1, 3]), ([], []), ([5], [5]), ([], []), ([7], [7]), ([6, 8, 4], [6, 8]), ([4, 9], [4, 9]), ([10, 9], [10]), ([11, 11, 0, 1, 2, 3, 4, 5, 6, 7, 8, 9, 10, 11], [11])])
def impl_itemOrder.B1 : List Nat := [0, 1, 0, 4, 15, 0, 32, 0, 128, 511, 1023, 2047, 4095]
theorem impl_itemOrder.tab1 : rtab .any (opsOf Tryd.f33 1) = impl_itemOrder.T1 := by kernel_rfl
theorem impl_itemOrder.bits1 : waitsOk impl_itemOrder.T1.2 impl_itemOrder.B1 = true := by kernel_rfl
set_option maxHeartbeats 8000000 in
set_option maxRecDepth 100000 in
theorem impl_itemOrder.calls (k : Nat) (a0_0 : Int) (a0_1 : ByteArray) (a0_2 : Int) (a0_3 : ByteArray) (a1_0 : Int) (a1_1 : ByteArray) (a1_2 : Int) (a1_3 : ByteArray) (r : Int) (w : World) (h : impl_itemOrder.f k a0_0 a0_1 a0_2 a0_3 a1_0 a1_1 a1_2 a1_3 = some r) :
  Calls Tryd.prog 33 #[.agg #[.int .i64 a0_0, .string a0_1, .int .i64 a0_2, .string a0_3], .agg #[.int .i64 a1_0, .string a1_1, .int .i64 a1_2, .string a1_3]] w fun e w' => e = .returned (.int .i64 r) ∧ Below w.heap.size w w' := by
 have hu33 := Tryd.underlying33;have HB := Aside0.mk (Below.refl w.heap.size w);have H : ((cmp_Compare_int.f a0_0 a1_0).bind fun t185 => ((cmp_Compare_string.f a0_1 a1_1).bind fun t186 => ((cmp_Or_int.f k (([t185, t186] : List Int))).bind fun t190 => (some t190)))) = some r := h;clear h;replace H := Option.bind_eq_some_iff.mp H;obtain ⟨t185, A30, H⟩ := H;have A3 := Aside0.mk A30;clear A30;replace H := Option.bind_eq_some_iff.mp H;obtain ⟨t186, A40, H⟩ := H;have A4 := Aside0.mk A40;clear A40;obtain ⟨y187, hy187⟩ : ∃ y_ : List Int, y_ = (([t185, t186] : List Int)) := ⟨_, rfl⟩;replace H : ((cmp_Or_int.f k y187).bind fun t190 => (some t190)) = some r := by first | (rw [hy187]; with_reducible exact H) | (have H2_ := (Option.bind_some _ _).symm.trans H; rw [hy187]; with_reducible exact H2_) | (have H2_ := (Option.bind_some _ _).symm.trans H; with_reducible exact H2_) | with_reducible exact H | (rw [hy187]; exact H) | exact H
 have Ny187 := Aside0.mk hy187;clear hy187;replace H := Option.bind_eq_some_iff.mp H;obtain ⟨t190, A50, H⟩ := H;have A5 := Aside0.mk A50;clear A50;obtain rfl := Option.some.inj H
 go_enter Tryd.func33, Tryd.ntmps33
 try go_wp2_with (first | ((with_reducible refine gate_dst (N := 2) rfl ?_); refine bv 2 #[.int .i64 a0_0, .string a0_1, .int .i64 a0_2, .string a0_3] 33 ?_; intro gb183 hg w6 hbox hb; have BK183 := Aside0.mk (hbox); have GW183 := gw HB hg; have GE183 := gw HB hg; replace HB := hbb HB hb; clear hb hbox hg) | ((with_reducible refine gate_dst (N := 3) rfl ?_); refine bv 3 #[.int .i64 a1_0, .string a1_1, .int .i64 a1_2, .string a1_3] 33 ?_; intro gb184 hg w7 hbox hb; have BK184 := Aside0.mk (hbox); have GW184 := gw HB hg; have GE184 := gw HB hg; have NB183_184 := nl BK183 hg; have NB184_183 := ng BK183 hg; replace BK183 := kb BK183 hb; replace HB := hbb HB hb; clear hb hbox hg))
 replace BK183 := Aside0.mk (blk_drew BK183.out);replace BK184 := Aside0.mk (blk_drew BK184.out);replace HB := Aside0.mk (below_drew1 HB.out);refine start_ (n := 13) (S := fun w' => w'.cell? ⟨gb183, 0, none⟩ = some (.int .i64 a0_0) ∧ w'.cell? ⟨gb183, 1, none⟩ = some (.string a0_1) ∧ w'.cell? ⟨gb183, 2, none⟩ = some (.int .i64 a0_2) ∧ w'.cell? ⟨gb183, 3, none⟩ = some (.string a0_3) ∧ w'.cell? ⟨gb184, 0, none⟩ = some (.int .i64 a1_0) ∧ w'.cell? ⟨gb184, 1, none⟩ = some (.string a1_1) ∧ w'.cell? ⟨gb184, 2, none⟩ = some (.int .i64 a1_2) ∧ w'.cell? ⟨gb184, 3, none⟩ = some (.string a1_3)) (ds := []) (bm 13 0) (by kernel_rfl) rfl rfl ⟨bc BK183 0, bc BK183 1, bc BK183 2, bc BK183 3, bc BK184 0, bc BK184 1, bc BK184 2, bc BK184 3⟩ (fun hHeld => ?_); refine with_tabW impl_itemOrder.tab1 impl_itemOrder.bits1 (fun HT_ HW_ => ?_)
 generalize w7.drew = w8 at BK183 BK184 HB hHeld ⊢;refine pu HT_ 0 5 (bm 13 1) ?_;refine pu HT_ 2 7 (bm 13 5) ?_;refine pu HT_ 5 10 (bm 13 37) ?_;refine pu HT_ 7 12 (bm 13 165) ?_;refine tk HT_ HW_ 1 6 (bm 13 167) hHeld ?_;refine tk HT_ HW_ 3 8 (bm 13 175) hHeld ?_;refine tk HT_ HW_ 6 11 (bm 13 239) hHeld ?_;refine tk HT_ HW_ 8 13 (bm 13 495) hHeld ?_;refine on HT_ 4 9 (bm 13 511) (fun K hK => ?_);refine gR Tryd.func43 #[.int .i64 a0_0, .int .i64 a1_0] ?_
 with_reducible refine (cmp_Compare_int.calls a0_0 a1_0 t185 _ A3.out).mono ?_
 rintro e w' ⟨rfl, ⟨nd, rfl⟩⟩;refine ⟨_, rfl, ?_⟩;refine hK.out _ _ ⟨bc BK183 0, bc BK183 1, bc BK183 2, bc BK183 3, bc BK184 0, bc BK184 1, bc BK184 2, bc BK184 3⟩ (fun hHeld => ?_);clear hK K;refine nm 9 ?_;refine on HT_ 9 14 (bm 13 1023) (fun K hK => ?_);refine gR Tryd.func44 #[.string a0_1, .string a1_1] ?_
 with_reducible refine (cmp_Compare_string.calls a0_1 a1_1 t186 _ A4.out).mono ?_
 rintro e w' ⟨rfl, ⟨nd, rfl⟩⟩;refine ⟨_, rfl, ?_⟩;refine hK.out _ _ ⟨bc BK183 0, bc BK183 1, bc BK183 2, bc BK183 3, bc BK184 0, bc BK184 1, bc BK184 2, bc BK184 3⟩ (fun hHeld => ?_);clear hK K;refine nm 14 ?_;refine on HT_ 10 15 (bm 13 2047) (fun K hK => ?_);refine rS (Kd.int .i64) 3 15 ([t185, t186] : List Int) [.int .i64 t185, .int .i64 t186] ?_;intro v188 w9 ho10 hb hg_ hnew_;clear hg_ hnew_;(first | rw [← Ny187.out] at ho10 | (simp only [Int.reduceToNat] at ho10; rw [← Ny187.out] at ho10));have HO189 := Aside0.mk (Kd.R_lower ho10 (below_size (by exact bb HB.out)));replace BK183 := kb BK183 hb;replace BK184 := kb BK184 hb;replace HB := hbb HB hb;clear hb ho10;obtain ⟨Ao11, co11, eo11⟩ := Kd.R_slice HO189.out;(first | subst eo11 | (injection eo11 with f1_ f2_ f3_; have f4_ := f1_.symm; have f5_ := f3_.symm; clear f1_ f2_ f3_; subst f4_; subst f5_));refine hK.out _ _ ⟨bc BK183 0, bc BK183 1, bc BK183 2, bc BK183 3, bc BK184 0, bc BK184 1, bc BK184 2, bc BK184 3⟩ (fun hHeld => ?_);clear hK K;refine nm 15 ?_;refine on HT_ 11 16 (bm 13 4095) (fun K hK => ?_);refine gR Tryd.func42 #[.slice Ao11 y187.length co11] ?_
 with_reducible refine (cmp_Or_int.calls k _ _ y187 t190 _ ?side1 ?side2 A5.out).mono ?_
 (case side1 => exact Kd.cR HO189);(case side2 => exact (Kd.R_reads' HO189.out).2.1);rintro e w' ⟨rfl, ⟨nd, rfl⟩⟩;refine ⟨_, rfl, ?_⟩;refine hK.out _ _ ⟨bc BK183 0, bc BK183 1, bc BK183 2, bc BK183 3, bc BK184 0, bc BK184 1, bc BK184 2, bc BK184 3⟩ (fun hHeld => ?_);clear hK K;refine nm 16 ?_;refine pu HT_ 12 4 (bm 13 8191) ?_;refine done_ (done_of HT_.out (by kernel_rfl)) ?_
 try go_wp2
 go_ret;exact ⟨by first | rfl | (simp [errW_none, errW_some] <;> rfl) | (simp [*, errW_none, errW_some] <;> rfl), by exact bb HB.out⟩
def impl_Cat_bytes.l0 : Nat → Int → Int → List (S33) → Int → Int → Option (Int)
 | 0, _, _, _, _, _ => none
 | k + 1, x1, x5, x9, x10, x11 => if x11 < x10 then (if 0 ≤ x11 then (if x11 < (x9.length : Int) then (if ((rd_T33 x9 x11).f0) = x1 then (impl_Cat_bytes.l0 k x1 (wrap64 (x5 + (((rd_T33 x9 x11).f3).size : Int))) x9 x10 (wrap64 (x11 + 1))) else (impl_Cat_bytes.l0 k x1 x5 x9 x10 (wrap64 (x11 + 1)))) else (none)) else (none)) else (some x5)
def impl_Cat_bytes.f (k : Nat) (a0_0 : Int) (l0_1 : List (S33)) (a1 : Int) : Option (Int) := impl_Cat_bytes.l0 k a1 0 l0_1 (l0_1.length : Int) 0
theorem impl_Cat_bytes.mono_l : ∀ k, (∀ y0 y1 y2 y3 y4, LeO (impl_Cat_bytes.l0 k y0 y1 y2 y3 y4) (impl_Cat_bytes.l0 (k + 1) y0 y1 y2 y3 y4))
 | 0 => fun _ _ _ _ _ r h => by simp [impl_Cat_bytes.l0] at h
 | k + 1 => by
  have ih0 := impl_Cat_bytes.mono_l k;intro y0 y1 y2 y3 y4;unfold impl_Cat_bytes.l0
  repeat' first
  | (with_reducible exact ih0 _ _ _ _ _)
  | (with_reducible exact LeO.refl _)
  | (with_reducible exact LeO.none _)
  | (with_reducible refine LeO.ite ?_ ?_)
  | (with_reducible refine LeO.bind ?_ (fun _ => ?_))
  | exact LeO.none _
  | refine LeO.ite ?_ ?_
  | refine LeO.bind ?_ (fun _ => ?_)
theorem impl_Cat_bytes.mono : ∀ a0 a1 a2 k, LeO (impl_Cat_bytes.f k a0 a1 a2) (impl_Cat_bytes.f (k + 1) a0 a1 a2) := by
 intro a0 a1 a2 k;have ih0 := impl_Cat_bytes.mono_l k;unfold impl_Cat_bytes.f
 repeat' first
   | (with_reducible exact ih0 _ _ _ _ _)
   | (with_reducible exact LeO.refl _)
   | (with_reducible exact LeO.none _)
   | (with_reducible refine LeO.ite ?_ ?_)
   | (with_reducible refine LeO.bind ?_ (fun _ => ?_))
   | exact LeO.none _
   | refine LeO.ite ?_ ?_
   | refine LeO.bind ?_ (fun _ => ?_)
set_option maxHeartbeats 8000000 in
set_option maxRecDepth 100000 in
theorem impl_Cat_bytes.calls (k : Nat) (a0_0 : Int) (A0_1 : Option Addr) (c0_1 : Nat) (l0_1 : List (S33)) (a1 : Int) (r : Int) (w : World) (hr0_1 : Kd.C k33 w A0_1 l0_1.length l0_1) (hc0_1 : l0_1.length ≤ c0_1) (h : impl_Cat_bytes.f k a0_0 l0_1 a1 = some r) :
  Calls Tryd.prog 34 #[.agg #[.int .i64 a0_0, .slice A0_1 l0_1.length c0_1], .int .i64 a1] w fun e w' => e = .returned (.int .i64 r) ∧ Below w.heap.size w w' := by
 have hu28 := Tryd.underlying28;have hu33 := Tryd.underlying33;have HR0_1 := Aside0.mk hr0_1;have HC0_1 := Aside0.mk hc0_1;clear hr0_1 hc0_1;have HB := Aside0.mk (Below.refl w.heap.size w);have H : (impl_Cat_bytes.l0 k a1 0 l0_1 (l0_1.length : Int) 0) = some r := h;clear h;have H' := Aside0.mk H;clear H
 go_enter Tryd.func34, Tryd.ntmps34
 go_wp2_with (first | ((with_reducible refine gate_dst (N := 2) rfl ?_); refine bv 2 #[.int .i64 a0_0, .slice A0_1 l0_1.length c0_1] 28 ?_; intro gb191 hg w3 hbox hb; have BK191 := Aside0.mk (hbox); have GW191 := gw HB hg; have GE191 := gw HB hg; replace HB := hbb HB hb; clear hb hbox hg; obtain ⟨hcz4_0, hcz4_1, hfz4_0, hfz4_1⟩ := c2 BK191))
 go_loopg [5, 11] k (fun kq v5 v11 w' => ∃ (x5_1 : Int) (x11_1 : Int), v5 = .int .i64 x5_1 ∧ v11 = .int .i64 x11_1 ∧ Aside0 (impl_Cat_bytes.l0 kq a1 x5_1 l0_1 (l0_1.length : Int) x11_1 = some r) ∧ Aside0 (kq ≤ k) ∧ Aside0 (w'.heap[gb191]? = some (.cells #[.int .i64 a0_0, (.slice A0_1 l0_1.length c0_1)] 28 (0, 0))) ∧ Aside0 (Below w.heap.size w w'))
 case atStart => exact ⟨(0), (0), rs, rs, H', ⟨Nat.le_refl _⟩, ⟨bl BK191.out⟩, ⟨by exact bb HB.out⟩⟩
 case round =>
  clear H';try clear p2
  try clear c3
  try clear hcz4_0
  try clear hcz4_1
  try clear hfz4_0
  try clear hfz4_1
  obtain ⟨x5_1, x11_1, rfl, rfl, HA, HK1, BK191, HB⟩ := hrel
  cases gk with
  | zero => exact absurd HA.out (by simp [impl_Cat_bytes.l0])
  | succ k1 =>
   have H := HA.out;clear HA;simp only [impl_Cat_bytes.l0] at H
   by_cases c5 : x11_1 < (l0_1.length : Int)
   ·rw [if_pos c5] at H;have c5b0 : decide (x11_1 < (l0_1.length : Int)) = true := decide_eq_true c5;clear c5
    by_cases c6 : 0 ≤ x11_1
    ·rw [if_pos c6] at H;have c6b0 : decide (0 ≤ x11_1) = true := decide_eq_true c6;clear c6
     by_cases c7 : x11_1 < (l0_1.length : Int)
     ·rw [if_pos c7] at H;have c7b0 : decide (x11_1 < (l0_1.length : Int)) = true := decide_eq_true c7;clear c7
      by_cases c8 : ((rd_T33 l0_1 x11_1).f0) = a1
      ·rw [if_pos c8] at H;have c8b0 : (((rd_T33 l0_1 x11_1).f0) == a1) = true := beq_iff_eq.mpr c8;have c8b1 : (((rd_T33 l0_1 x11_1).f0) != a1) = false := bne_eq_false_iff_eq.mpr c8;clear c8;have H' := Aside0.mk H;clear H;have p192 : 0 ≤ (x11_1 : Int) := of_decide_eq_true am;have q192 : x11_1 < (l0_1.length : Int) := of_decide_eq_true am;obtain ⟨ad192, e192, hx192_0, hx192_1, hx192_2, hx192_3⟩ := at_T33 HR0_1.out x11_1 p192 q192;cases e192;replace hx192_0 := (HB.out.cell (World.block_lt_of_cell? w _ hx192_0)).trans hx192_0;replace hx192_1 := (HB.out.cell (World.block_lt_of_cell? w _ hx192_1)).trans hx192_1;replace hx192_2 := (HB.out.cell (World.block_lt_of_cell? w _ hx192_2)).trans hx192_2;replace hx192_3 := (HB.out.cell (World.block_lt_of_cell? w _ hx192_3)).trans hx192_3;replace p192 := eq_true p192;replace q192 := eq_true q192;go_wp2_with (first | ((with_reducible refine gate_dst (N := 7) rfl ?_); refine bv 7 #[.int .i64 0, .string (⟨#[]⟩ : ByteArray), .int .i64 0, .string (⟨#[]⟩ : ByteArray)] 33 ?_; intro gb193 hg w9 hbox hb; have BK193 := Aside0.mk (hbox); have GW193 := gw HB hg; have GE193 := gw HB hg; have NB191_193 := nl BK191 hg; have NB193_191 := ng BK191 hg; replace BK191 := kb BK191 hb; replace HB := hbb HB hb; clear hb hbox hg; have hnb10 := NB193_191.out; have hnc10 := NB191_193.out; obtain ⟨hcz11_0, hcz11_1, hcz11_2, hcz11_3, hfz11_0, hfz11_1, hfz11_2, hfz11_3⟩ := c4 BK193))
       go_roundg k1
       case measure => have := HK1.out; omega
       case rel => exact ⟨(wrap64 (x5_1 + (((rd_T33 l0_1 x11_1).f3).size : Int))), (wrap64 (x11_1 + 1)), rs, rs, H', ⟨by have := HK1.out; omega⟩, ⟨bx (a := gb193) BK191.out NB191_193.out⟩, ⟨by exact bbx (a := gb193) HB.out GE193.out⟩⟩
      rw [if_neg c8] at H;have c8b0 : (((rd_T33 l0_1 x11_1).f0) == a1) = false := beq_eq_false_iff_ne.mpr c8;have c8b1 : (((rd_T33 l0_1 x11_1).f0) != a1) = true := bne_iff_ne.mpr c8;have H' := Aside0.mk H;clear H;have p192 : 0 ≤ (x11_1 : Int) := of_decide_eq_true am;have q192 : x11_1 < (l0_1.length : Int) := of_decide_eq_true am;obtain ⟨ad192, e192, hx192_0, hx192_1, hx192_2, hx192_3⟩ := at_T33 HR0_1.out x11_1 p192 q192;cases e192;replace hx192_0 := (HB.out.cell (World.block_lt_of_cell? w _ hx192_0)).trans hx192_0;replace hx192_1 := (HB.out.cell (World.block_lt_of_cell? w _ hx192_1)).trans hx192_1;replace hx192_2 := (HB.out.cell (World.block_lt_of_cell? w _ hx192_2)).trans hx192_2;replace hx192_3 := (HB.out.cell (World.block_lt_of_cell? w _ hx192_3)).trans hx192_3;replace p192 := eq_true p192;replace q192 := eq_true q192;go_wp2_with (first | ((with_reducible refine gate_dst (N := 7) rfl ?_); refine bv 7 #[.int .i64 0, .string (⟨#[]⟩ : ByteArray), .int .i64 0, .string (⟨#[]⟩ : ByteArray)] 33 ?_; intro gb193 hg w12 hbox hb; have BK193 := Aside0.mk (hbox); have GW193 := gw HB hg; have GE193 := gw HB hg; have NB191_193 := nl BK191 hg; have NB193_191 := ng BK191 hg; replace BK191 := kb BK191 hb; replace HB := hbb HB hb; clear hb hbox hg; have hnb13 := NB193_191.out; have hnc13 := NB191_193.out; obtain ⟨hcz14_0, hcz14_1, hcz14_2, hcz14_3, hfz14_0, hfz14_1, hfz14_2, hfz14_3⟩ := c4 BK193))
      go_roundg k1
      case measure => have := HK1.out; omega
      case rel => exact ⟨(x5_1), (wrap64 (x11_1 + 1)), rs, rs, H', ⟨by have := HK1.out; omega⟩, ⟨bx (a := gb193) BK191.out NB191_193.out⟩, ⟨by exact bbx (a := gb193) HB.out GE193.out⟩⟩
     rw [if_neg c7] at H;exact absurd H (by simp)
    rw [if_neg c6] at H;exact absurd H (by simp)
   rw [if_neg c5] at H;have c5b0 : decide (x11_1 < (l0_1.length : Int)) = false := decide_eq_false c5;clear c5;obtain rfl := Option.some.inj H;go_wp2;go_ret;exact ⟨by first | rfl | (simp [errW_none, errW_some] <;> rfl) | (simp [*, errW_none, errW_some] <;> rfl), by exact bb HB.out⟩
-- BY HAND: slices_SortFunc_Item: function 40
end Go.Proofs.YtoohbmoljdfbjaaDoor.P
