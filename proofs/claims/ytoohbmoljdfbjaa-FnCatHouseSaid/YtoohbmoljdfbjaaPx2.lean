-- made by wip/prt/pp.py over the kit's print
import Derived.Test.YtoohbmoljdfbjaaPx0
namespace Go.Proofs.Ytoohbmoljdfbjaa.P
open Go.RowKit Go.Proofs.YtoohbmoljdfbjaaW.PrintWords Go.Proofs.YtoohbmoljdfbjaaW.PrintLast Go.Proofs.YtoohbmoljdfbjaaW.PrintMore
attribute [local go_sem] max2_int min2_int max_two min_two max_three min_three max_four min_four   -- for this text's walks alone
set_option linter.unusedVariables false
set_option linter.unusedSimpArgs false
/-- A state of type 64 at block g of W; what its slices lead to came in by w0. -/
def IsS64 (w0 W : World) (g : Nat) (f0 : List Int) (f1 : Int) : Prop := ∃ A0 c0, W.heap[g]? = some (.cells #[.slice A0 f0.length c0, .int .i64 f1] 64 (0, 0)) ∧ w0.heap.size ≤ g ∧ Kd.C (Kd.int .u8) w0 A0 f0.length f0
theorem IsS64.grown {w0 W : World} {g : Nat} {f0 : List Int} {f1 : Int} {W1 : World} {row : Option Nat} (h : IsS64 w0 W g f0 f1) (hw : W.grownBy W1 row) (hne : some g ≠ row) : IsS64 w0 W1 g f0 f1 := by
 obtain ⟨A0, c0, hb, hg, hr0⟩ := h;exact ⟨A0, c0, blk_grown hb hw hne, hg, hr0⟩
theorem IsS64.own_neN {w0 W : World} {g : Nat} {f0 : List Int} {f1 : Int} {α : Type} {d : Kd α} {e : Nat} {base : Nat} {ok : Nat → Prop} {v : Value} {xs : List α} (h : IsS64 w0 W g f0 f1) (ho : Kd.N d e W base ok v xs) (ht : e ≠ 64) : some g ≠ v.ownBlock := by
 obtain ⟨A0, c0, hb, hg, hr0⟩ := h;exact Kd.N_ne ho hb ht
theorem IsS64.fresh {w0 W : World} {g : Nat} {f0 : List Int} {f1 : Int} (h : IsS64 w0 W g f0 f1) : ∀ k, W.heap.size ≤ k → k ≠ g := by
 obtain ⟨A0, c0, hb, hg, hr0⟩ := h;exact Kd.freshB hb
theorem IsS64.kept {w0 W : World} {g : Nat} {f0 : List Int} {f1 : Int} {W1 : World} {S : Nat → Prop} (h : IsS64 w0 W g f0 f1) (hk : Kept W W1 S) (hne : ¬ S g) : IsS64 w0 W1 g f0 f1 := by
 obtain ⟨A0, c0, hb, hg, hr0⟩ := h;exact ⟨A0, c0, blk_kept hb hk hne, hg, hr0⟩
theorem IsS64.below {w0 W : World} {g : Nat} {f0 : List Int} {f1 : Int} {W1 : World} (h : IsS64 w0 W g f0 f1) (hw : Below W.heap.size W W1) : IsS64 w0 W1 g f0 f1 := h.grown (grown_of_below hw none) (by simp)
theorem IsS64.alloc {w0 W : World} {g : Nat} {f0 : List Int} {f1 : Int} (h : IsS64 w0 W g f0 f1) (o : Obj) : IsS64 w0 (W.alloc o) g f0 f1 := h.below (below_alloc (Below.refl _ _) o)
theorem IsS64.drewN {w0 W : World} {g : Nat} {f0 : List Int} {f1 : Int} (h : IsS64 w0 W g f0 f1) (m : Nat) : IsS64 w0 (W.drewN m) g f0 f1 := h
theorem IsS64.drew {w0 W : World} {g : Nat} {f0 : List Int} {f1 : Int} (h : IsS64 w0 W g f0 f1) : IsS64 w0 W.drew g f0 f1 := h
theorem IsS64.at_ {w0 W : World} {g : Nat} {f0 : List Int} {f1 : Int} {w' : World} {m : Nat} (hq : W.drewN m = w') (h : IsS64 w0 W g f0 f1) : IsS64 w0 w' g f0 f1 := by subst hq; exact IsS64.drewN h m
theorem IsS64.apart {w0 W : World} {g : Nat} {f0 : List Int} {f1 : Int} {α : Type} {d : Kd α} {e : Nat} {base : Nat} {ok : Nat → Prop} {v : Value} {xs : List α} (h : IsS64 w0 W g f0 f1) (ho : d.R e W base ok v xs) (ht : ∀ q, q ∈ e :: d.E → q ≠ 64) : d.R e W base (fun k => ok k ∧ k ≠ g) v xs := by
 obtain ⟨A0, c0, hb, hg, hr0⟩ := h;exact Kd.R_types ho hb ht
theorem IsS64.ap {w0 W : World} {g : Nat} {f0 : List Int} {f1 : Int} {w w1 : World} {α : Type} {d : Kd α} {e base : Nat} {ok : Nat → Prop} {v : Value} {xs : List α} (hI : Aside0 (IsS64 w0 w g f0 f1)) (ho : Aside0 (d.R e w base ok v xs)) (hk : KeepBut W w1 g none) [i : Lat w W] (ht : ∀ q, q ∈ e :: d.E → q ≠ 64 := by decide) : Aside0 (d.R e w1 base ok v xs) := ⟨Kd.R_mono (Kd.R_keep (IsS64.apart (IsS64.below hI.out Lat.o) (Kd.R_lat ho.out) ht) hk (fun _ h => h.2)) (fun _ h => h.1)⟩
theorem IsS64.own_ne {w0 W : World} {g : Nat} {f0 : List Int} {f1 : Int} {α : Type} {d : Kd α} {e : Nat} {base : Nat} {ok : Nat → Prop} {v : Value} {xs : List α} (h : IsS64 w0 W g f0 f1) (ho : d.R e W base ok v xs) (ht : e ≠ 64) : some g ≠ v.ownBlock := by
 obtain ⟨A0, c0, hb, hg, hr0⟩ := h;exact Kd.R_ne ho hb ht
theorem IsS64.apartQ {w0 W : World} {g : Nat} {f0 : List Int} {f1 : Int} {α : Type} {d : Kd α} {e : Nat} {base : Nat} {ok : Nat → Prop} {v : Value} {xs : List α} (h : IsS64 w0 W g f0 f1) (ho : d.Q e W base ok v xs) (ht : ∀ q, q ∈ e :: d.E → q ≠ 64) : d.Q e W base (fun k => ok k ∧ k ≠ g) v xs := by
 obtain ⟨A0, c0, hb, hg, hr0⟩ := h;exact Kd.Q_types ho hb ht
theorem IsS64.own_neQ {w0 W : World} {g : Nat} {f0 : List Int} {f1 : Int} {α : Type} {d : Kd α} {e : Nat} {base : Nat} {ok : Nat → Prop} {v : Value} {xs : List α} (h : IsS64 w0 W g f0 f1) (ho : d.Q e W base ok v xs) (ht : e ≠ 64) : some g ≠ v.ownBlock := by
 obtain ⟨A0, c0, hb, hg, hr0⟩ := h;exact Kd.Q_ne ho hb ht
theorem IsS64.apartS {w0 W : World} {g : Nat} {f0 : List Int} {f1 : Int} {α : Type} {d : Kd α} {e : Nat} {base : Nat} {ok : Nat → Prop} {v : Value} {xs : List α} (h : IsS64 w0 W g f0 f1) (ho : d.S e W base ok v xs) (ht : ∀ q, q ∈ e :: d.E → q ≠ 64) : d.S e W base (fun k => ok k ∧ k ≠ g) v xs := by
 obtain ⟨A0, c0, hb, hg, hr0⟩ := h;exact Kd.S_types ho hb ht
theorem IsS64.own_neS {w0 W : World} {g : Nat} {f0 : List Int} {f1 : Int} {α : Type} {d : Kd α} {e : Nat} {base : Nat} {ok : Nat → Prop} {v : Value} {xs : List α} (h : IsS64 w0 W g f0 f1) (ho : d.S e W base ok v xs) (ht : e ≠ 64) : some g ≠ v.ownBlock := by
 obtain ⟨A0, c0, hb, hg, hr0⟩ := h;exact Kd.S_ne ho hb ht
theorem IsS64.lt {w0 W : World} {g : Nat} {f0 : List Int} {f1 : Int} (h : IsS64 w0 W g f0 f1) : g < W.heap.size := by
 obtain ⟨A0, c0, hb, hg, hr0⟩ := h;exact blk_lt hb
theorem IsS64.ge {w0 W : World} {g : Nat} {f0 : List Int} {f1 : Int} (h : IsS64 w0 W g f0 f1) : w0.heap.size ≤ g := by
 obtain ⟨A0, c0, hb, hg, hr0⟩ := h;exact hg
theorem IsS64.ne_blk {w0 W : World} {g : Nat} {f0 : List Int} {f1 : Int} {a : Nat} {cs : Array Value} {t : TypeId} {fr : Nat × Nat} (h : IsS64 w0 W g f0 f1) (hb2 : W.heap[a]? = some (.cells cs t fr)) (ht : t ≠ 64) : g ≠ a := by
 obtain ⟨A0, c0, hb, hg, hr0⟩ := h;rintro rfl;rw [hb] at hb2
 injection hb2 with hb2
 injection hb2 with _ ht2
 exact ht ht2.symm
theorem IsS64.far {w0 W : World} {g : Nat} {f0 : List Int} {f1 : Int} {p : Addr} (h : IsS64 w0 W g f0 f1) (hne : g ≠ p.block) (u : Value) : IsS64 w0 (W.setCell p u) g f0 f1 := by
 obtain ⟨A0, c0, hb, hg, hr0⟩ := h;exact ⟨A0, c0, blk_far hb hne u, hg, hr0⟩
theorem cellS64_0 {W : World} {g : Nat} {A0 : Option Addr} {c0 : Nat} {f0 : List Int} {f1 : Int} (h : W.heap[g]? = some (.cells #[.slice A0 f0.length c0, .int .i64 f1] 64 (0, 0))) : W.cell? ⟨g, 0, none⟩ = some (.slice A0 f0.length c0) := (blk_cell h 0).trans rfl
theorem cellS64_1 {W : World} {g : Nat} {A0 : Option Addr} {c0 : Nat} {f0 : List Int} {f1 : Int} (h : W.heap[g]? = some (.cells #[.slice A0 f0.length c0, .int .i64 f1] 64 (0, 0))) : W.cell? ⟨g, 1, none⟩ = some (.int .i64 f1) := (blk_cell h 1).trans rfl
theorem IsS64.set_1 {w0 W : World} {g : Nat} {f0 : List Int} {f1 : Int} (h : IsS64 w0 W g f0 f1) (x : Int) : IsS64 w0 (W.setCell ⟨g, 1, none⟩ (.int .i64 x)) g f0 x := by
 obtain ⟨A0, c0, hb, hg, hr0⟩ := h;exact ⟨A0, c0, by simpa using blk_set hb 1 (.int .i64 x), hg, hr0⟩
theorem IsS64.new (w0 W : World) (A0 : Option Addr) (c0 : Nat) (f0 : List Int) (f1 : Int) (hB : Below w0.heap.size w0 W) (hr0 : Kd.C (Kd.int .u8) w0 A0 f0.length f0) : IsS64 w0 (W.alloc (.cells #[.slice A0 f0.length c0, .int .i64 f1] 64)) W.heap.size f0 f1 := ⟨A0, c0, by simpa using heap_alloc_new W _, hB.size, hr0⟩
def spec_l1Open.f (l0 : List Int) : Option (List Int × Int) := if (l0.length : Int) > 2000 then (if 2000 ≤ (l0.length : Int) then (some (l0.take 2000, 0)) else (none)) else (some (l0, 0))
set_option maxHeartbeats 8000000 in
set_option maxRecDepth 100000 in
theorem spec_l1Open.calls (A0 : Option Addr) (c0 : Nat) (l0 : List Int) (r1 : List Int) (r2 : Int) (w0 w : World) (hB : Below w0.heap.size w0 w) (hr0 : Kd.C (Kd.int .u8) w0 A0 l0.length l0) (hc0 : l0.length ≤ c0) (h : spec_l1Open.f l0 = some (r1, r2)) :
  Calls Try.prog 17 #[.slice A0 l0.length c0] w fun e w' => ∃ g_ : Nat, e = .returned (.pointer (some ⟨g_, 0, none⟩)) ∧ IsS64 w0 w' g_ r1 r2 ∧ Below w0.heap.size w0 w' ∧ Below w.heap.size w w' := by
 have hu64 := Try.underlying64;have HR0 := Aside0.mk hr0;have HC0 := Aside0.mk hc0;clear hr0 hc0;have HBW := Aside0.mk (Below.refl w.heap.size w);have HW0 := Aside0.mk hB.size;have HB := Aside0.mk hB;clear hB;have H : (if (l0.length : Int) > 2000 then (if 2000 ≤ (l0.length : Int) then (some (l0.take 2000, 0)) else (none)) else (some (l0, 0))) = some (r1, r2) := h;clear h
 by_cases c2 : (l0.length : Int) > 2000
 ·rw [if_pos c2] at H;have c2b0 : decide (2000 < (l0.length : Int)) = true := decide_eq_true c2;have c2b1 : decide (2000 < l0.length) = true := decide_eq_true (by omega);clear c2
  by_cases c3 : 2000 ≤ (l0.length : Int)
  ·rw [if_pos c3] at H;have c3b0 := eq_true c3;have c3b1 : decide (2000 ≤ (l0.length : Int)) = true := decide_eq_true c3;clear c3;simp only [Option.some.injEq, Prod.mk.injEq] at H;obtain ⟨rfl, rfl⟩ := H;obtain ⟨i04, hi04, _, hsz4, _⟩ := info_parts info5;obtain ⟨hcut4, hA4, hC4⟩ := print_take_of (P := Try.prog) (Value.int .u8) 0 22 5 .i64 Try.underlying22 hi04 hsz4 A0 c0 l0 2000 (by omega) (of_decide_eq_true am) HC0.out;have HR101 := Aside0.mk (Kd.C_of_reads (h1 := fun _ => rfl) (hA4 _ (Kd.reads_of_C HR0.out)));have HC101 := Aside0.mk hC4;clear hA4 hC4 hi04 hsz4
   go_enter Try.func17, Try.ntmps17
   go_wp2_with (first | ((with_reducible refine gate_dst (N := 10) rfl ?_); refine bv 10 #[.slice A0 (l0.take 2000).length c0, .int .i64 0] 64 ?_; intro gb102 hg w5 hbox hb; have BK102 := Aside0.mk (hbox); have GW102 := gw HBW hg; have GE102 := Aside0.mk ((Nat.le_trans HW0.out (by rw [hg]; exact (below_size (by exact bb HBW.out)) : w.heap.size ≤ gb102) : w0.heap.size ≤ gb102)); replace HBW := Aside0.mk (below_step HBW.out hb); replace HB := hbb HB hb; clear hb hbox hg));go_ret;exact ⟨_, rfl, (show IsS64 w0 _ gb102 (l0.take 2000) 0 from ⟨_, _, bl BK102.out, GE102.out, HR101.out⟩), by exact bb HB.out, by exact bb HBW.out⟩
  rw [if_neg c3] at H;exact absurd H (by simp)
 rw [if_neg c2] at H;have c2b0 : decide (2000 < (l0.length : Int)) = false := decide_eq_false c2;have c2b1 : decide (2000 < l0.length) = false := decide_eq_false (by omega);clear c2;simp only [Option.some.injEq, Prod.mk.injEq] at H;obtain ⟨rfl, rfl⟩ := H
 go_enter Try.func17, Try.ntmps17
 go_wp2_with (first | ((with_reducible refine gate_dst (N := 10) rfl ?_); refine bv 10 #[.slice A0 l0.length c0, .int .i64 0] 64 ?_; intro gb103 hg w6 hbox hb; have BK103 := Aside0.mk (hbox); have GW103 := gw HBW hg; have GE103 := Aside0.mk ((Nat.le_trans HW0.out (by rw [hg]; exact (below_size (by exact bb HBW.out)) : w.heap.size ≤ gb103) : w0.heap.size ≤ gb103)); replace HBW := Aside0.mk (below_step HBW.out hb); replace HB := hbb HB hb; clear hb hbox hg));go_ret;exact ⟨_, rfl, (show IsS64 w0 _ gb103 l0 0 from ⟨_, _, bl BK103.out, GE103.out, HR0.out⟩), by exact bb HB.out, by exact bb HBW.out⟩
def spec_l1Rd_pick.j0 : Nat → Int → Bool → List Int → Int → Option (Int × Int)
 | 0, _, _, _, _ => none
 | k + 1, x1, x24, x1000, x1001 => if x24 = true then (some (0, x1001)) else (if (wrap64 (x1001 - 1)) < (x1000.length : Int) then (if 0 ≤ (wrap64 (x1001 - 1)) then (if x1 = 0 then (none) else (some (Int.tmod (wrap64 (rd x1000 (wrap64 (x1001 - 1)))) x1, x1001))) else (none)) else (if (x1000.length : Int) = 0 then (none) else (if 0 ≤ (Int.tmod (wrap64 (x1001 - 1)) (x1000.length : Int)) then (if (Int.tmod (wrap64 (x1001 - 1)) (x1000.length : Int)) < (x1000.length : Int) then (if 0 ≤ (Int.tmod (wrap64 ((wrap64 ((wrap64 (x1001 - 1)) * 7)) + 3)) (x1000.length : Int)) then (if (Int.tmod (wrap64 ((wrap64 ((wrap64 (x1001 - 1)) * 7)) + 3)) (x1000.length : Int)) < (x1000.length : Int) then (if x1 = 0 then (none) else (some (Int.tmod (Go.bits .xor .i64 (wrap64 ((wrap64 ((wrap64 ((wrap64 ((wrap64 (rd x1000 (Int.tmod (wrap64 (x1001 - 1)) (x1000.length : Int)))) * 131)) + (wrap64 ((wrap64 (rd x1000 (Int.tmod (wrap64 ((wrap64 ((wrap64 (x1001 - 1)) * 7)) + 3)) (x1000.length : Int)))) * 1117)))) + (wrap64 ((wrap64 (x1001 - 1)) * 29)))) + (wrap64 ((wrap64 (Int.tdiv (wrap64 (x1001 - 1)) (x1000.length : Int))) * 53)))) (wrap64 (Int.tdiv (wrap64 ((wrap64 ((wrap64 ((wrap64 ((wrap64 (rd x1000 (Int.tmod (wrap64 (x1001 - 1)) (x1000.length : Int)))) * 131)) + (wrap64 ((wrap64 (rd x1000 (Int.tmod (wrap64 ((wrap64 ((wrap64 (x1001 - 1)) * 7)) + 3)) (x1000.length : Int)))) * 1117)))) + (wrap64 ((wrap64 (x1001 - 1)) * 29)))) + (wrap64 ((wrap64 (Int.tdiv (wrap64 (x1001 - 1)) (x1000.length : Int))) * 53)))) 64))) x1, x1001))) else (none)) else (none)) else (none)) else (none))))
def spec_l1Rd_pick.f (k : Nat) (s0_0 : List Int) (s0_1 : Int) (a1 : Int) : Option (Int × Int) := if a1 < 1 then (spec_l1Rd_pick.j0 k a1 true s0_0 (wrap64 (s0_1 + 1))) else (spec_l1Rd_pick.j0 k a1 ((s0_0.length : Int) == 0) s0_0 (wrap64 (s0_1 + 1)))
theorem spec_l1Rd_pick.mono_l : ∀ k, (∀ y0 y1 y2 y3, LeO (spec_l1Rd_pick.j0 k y0 y1 y2 y3) (spec_l1Rd_pick.j0 (k + 1) y0 y1 y2 y3))
 | 0 => fun _ _ _ _ r h => by simp [spec_l1Rd_pick.j0] at h
 | k + 1 => by
  have ih0 := spec_l1Rd_pick.mono_l k;intro y0 y1 y2 y3;unfold spec_l1Rd_pick.j0
  repeat' first
  | (with_reducible exact ih0 _ _ _ _)
  | (with_reducible exact LeO.refl _)
  | (with_reducible exact LeO.none _)
  | (with_reducible refine LeO.ite ?_ ?_)
  | (with_reducible refine LeO.bind ?_ (fun _ => ?_))
  | exact LeO.none _
  | refine LeO.ite ?_ ?_
  | refine LeO.bind ?_ (fun _ => ?_)
theorem spec_l1Rd_pick.mono : ∀ a0 a1 a2 k, LeO (spec_l1Rd_pick.f k a0 a1 a2) (spec_l1Rd_pick.f (k + 1) a0 a1 a2) := by
 intro a0 a1 a2 k;have ih0 := spec_l1Rd_pick.mono_l k;unfold spec_l1Rd_pick.f
 repeat' first
   | (with_reducible exact ih0 _ _ _ _)
   | (with_reducible exact LeO.refl _)
   | (with_reducible exact LeO.none _)
   | (with_reducible refine LeO.ite ?_ ?_)
   | (with_reducible refine LeO.bind ?_ (fun _ => ?_))
   | exact LeO.none _
   | refine LeO.ite ?_ ?_
   | refine LeO.bind ?_ (fun _ => ?_)
set_option maxHeartbeats 8000000 in
set_option maxRecDepth 100000 in
theorem spec_l1Rd_pick.calls (k : Nat) (g : Nat) (s0_0 : List Int) (s0_1 : Int) (a1 : Int) (r1 : Int) (r2 : Int) (w0 w : World) (hI : IsS64 w0 w g s0_0 s0_1) (hB : Below w0.heap.size w0 w) (h : spec_l1Rd_pick.f k s0_0 s0_1 a1 = some (r1, r2)) :
  Calls Try.prog 19 #[.pointer (some ⟨g, 0, none⟩), .int .i64 a1] w fun e w' => e = .returned (.int .i64 r1) ∧ IsS64 w0 w' g s0_0 r2 ∧ Below w0.heap.size w0 w' ∧ KeepBut w w' g none := by
 have HI0 := Aside0.mk hI;have HK := Aside0.mk (KeepBut.refl w g none);have HL := Aside0.mk hB.size;clear hI;have HW0 := Aside0.mk hB.size;have HB := Aside0.mk hB;clear hB;have H : (if a1 < 1 then (spec_l1Rd_pick.j0 k a1 true s0_0 (wrap64 (s0_1 + 1))) else (spec_l1Rd_pick.j0 k a1 ((s0_0.length : Int) == 0) s0_0 (wrap64 (s0_1 + 1)))) = some (r1, r2) := h;clear h;have HC3 := Aside0.mk H;clear H;obtain ⟨ASz4_0, cSz4_0, HGz4, hgz4, HSz4_0⟩ := HI0.out;have hcz4_0 := cellS64_0 HGz4;have hcz4_1 := cellS64_1 HGz4;have hfz4_1 := blk_frozen HGz4 1;clear HGz4 hgz4
 go_enter Try.func19, Try.ntmps19
 go_upto_region 2 with (fail)
 repeat (go_quiet (fail); go_upto_region 2 with (fail))
 go_cut [24] (fun v24 wc => ∃ (kq : Nat) (x24_2 : Bool), v24 = .bool x24_2 ∧ Aside0 (spec_l1Rd_pick.j0 kq a1 x24_2 s0_0 (wrap64 (s0_1 + 1)) = some (r1, r2)) ∧ Aside0 (kq ≤ k) ∧ Aside0 (IsS64 w0 wc g s0_0 (wrap64 (s0_1 + 1))) ∧ Aside0 (KeepBut w wc g none) ∧ Aside0 (Below w0.heap.size w0 wc))
 case first =>
  have H := HC3.out;clear HC3
  by_cases c5 : a1 < 1
  ·rw [if_pos c5] at H;have c5b0 : decide (a1 < 1) = true := decide_eq_true c5;clear c5;(first | rw [c5b0] | (simp only [i64_w, i32_w]; rw [c5b0]) | skip);have H' := Aside0.mk H;clear H;go_wp2
   repeat (go_quiet (fail); try go_wp2)
   go_meet
   case rel => exact ⟨_, (true), rs, H', ⟨by first | omega | exact Nat.le_refl _⟩, ⟨by repeat (first | (with_reducible first | exact HI0.out | apply IsS64.alloc | apply IsS64.drewN | apply IsS64.drew | apply IsS64.set_1) | exact HI0.out)⟩, ⟨by exact ks (g := g) HK.out⟩, ⟨by exact bbx (a := g) HB.out (IsS64.ge HI0.out)⟩⟩
  rw [if_neg c5] at H;have c5b0 : decide (a1 < 1) = false := decide_eq_false c5;clear c5;(first | rw [c5b0] | (simp only [i64_w, i32_w]; rw [c5b0]) | skip);have H' := Aside0.mk H;clear H;obtain ⟨ASz6_0, cSz6_0, HGz6, hgz6, HSz6_0⟩ := HI0.out;have hcz6_0 := cellS64_0 HGz6;have hcz6_1 := cellS64_1 HGz6;have hfz6_1 := blk_frozen HGz6 1;clear HGz6 hgz6;go_wp2
  repeat (go_quiet (fail); try go_wp2)
  go_meet
  case rel => exact ⟨_, (((s0_0.length : Int) == 0)), rs, H', ⟨by first | omega | exact Nat.le_refl _⟩, ⟨by repeat (first | (with_reducible first | exact HI0.out | apply IsS64.alloc | apply IsS64.drewN | apply IsS64.drew | apply IsS64.set_1) | exact HI0.out)⟩, ⟨by exact ks (g := g) HK.out⟩, ⟨by exact bbx (a := g) HB.out (IsS64.ge HI0.out)⟩⟩
 case rest =>
  clear HC3;try clear c1
  try clear p2
  try clear c5
  try clear c5b0
  try clear p6
  try clear hcz4_0
  try clear hcz4_1
  try clear hcz6_0
  try clear hcz6_1
  try clear hfz4_1
  try clear hfz6_1
  obtain ⟨kq, x24_2, rfl, HA, HJ2, HI0, HK, HB⟩ := hcut
  cases kq with
  | zero => exact absurd HA.out (by simp [spec_l1Rd_pick.j0])
  | succ kj2 =>
   have H := HA.out;clear HA;simp only [spec_l1Rd_pick.j0] at H
   by_cases c7 : x24_2 = true
   ·subst c7;rw [if_pos rfl] at H;simp only [Option.some.injEq, Prod.mk.injEq] at H;obtain ⟨rfl, rfl⟩ := H;go_wp2
    repeat (go_quiet (fail); try go_wp2)
    go_ret;exact ⟨by first | rfl | (simp [errW_none, errW_some] <;> rfl) | (simp [*, errW_none, errW_some] <;> rfl), by exact IsS64.below HI0.out Lat.o, by exact bb HB.out, by exact kk HK.out⟩
   replace c7 := Bool.eq_false_iff.mpr c7;subst c7;rw [if_neg (show ¬ (false = true) by decide)] at H
   by_cases c8 : (wrap64 ((wrap64 (s0_1 + 1)) - 1)) < (s0_0.length : Int)
   ·rw [if_pos c8] at H;have c8b0 : decide ((wrap64 ((wrap64 (s0_1 + 1)) - 1)) < (s0_0.length : Int)) = true := decide_eq_true c8;clear c8;obtain ⟨ji9, hji9⟩ : ∃ j_ : Int, (wrap64 ((wrap64 (s0_1 + 1)) - 1)) = j_ := ⟨_, rfl⟩;replace H : (if 0 ≤ (ji9) then (if a1 = 0 then (none) else (some (Int.tmod (wrap64 (rd s0_0 (ji9))) a1, (wrap64 (s0_1 + 1))))) else (none)) = some (r1, r2) := by first | (rw [hji9] at H; exact H) | (simp only [hji9] at H ⊢; exact H)
    (try rw [hji9] at c8b0);have hji9w : (IntKind.i64.wrap ((wrap64 (s0_1 + 1)) - 1)) = ji9 := (i64_w _).trans hji9
    by_cases c10 : 0 ≤ (ji9)
    ·rw [if_pos c10] at H;have c10b0 : decide (0 ≤ (ji9)) = true := decide_eq_true c10;clear c10
     by_cases c11 : a1 = 0
     ·rw [if_pos c11] at H;exact absurd H (by simp)
     rw [if_neg c11] at H;have c11b0 : (a1 == 0) = false := beq_eq_false_iff_ne.mpr c11;have c11b1 : (a1 != 0) = true := bne_iff_ne.mpr c11;simp only [Option.some.injEq, Prod.mk.injEq] at H;obtain ⟨rfl, rfl⟩ := H;obtain ⟨ASz12_0, cSz12_0, HGz12, hgz12, HSz12_0⟩ := HI0.out;have hcz12_0 := cellS64_0 HGz12;have hcz12_1 := cellS64_1 HGz12;have hfz12_1 := blk_frozen HGz12 1;clear HGz12 hgz12;have p104 : 0 ≤ ((ji9) : Int) := of_decide_eq_true am;have q104 : (ji9) < (s0_0.length : Int) := of_decide_eq_true am;obtain ⟨ad104, e104, hx104_0⟩ := Kd.at_int HSz12_0 (ji9) p104 q104;cases e104;replace hx104_0 := pw_cell_below HB.out hx104_0;replace p104 := eq_true p104;replace q104 := eq_true q104;go_wp2
     repeat (go_quiet (fail); try go_wp2)
     go_ret;exact ⟨by first | rfl | (simp [errW_none, errW_some] <;> rfl) | (simp only [← hji9]; first | rfl | (simp [errW_none, errW_some] <;> rfl)) | (simp [*, errW_none, errW_some] <;> rfl), by exact IsS64.below HI0.out Lat.o, by exact bb HB.out, by exact kk HK.out⟩
    rw [if_neg c10] at H;exact absurd H (by simp)
   rw [if_neg c8] at H;have c8b0 : decide ((wrap64 ((wrap64 (s0_1 + 1)) - 1)) < (s0_0.length : Int)) = false := decide_eq_false c8;clear c8
   by_cases c13 : (s0_0.length : Int) = 0
   ·rw [if_pos c13] at H;exact absurd H (by simp)
   rw [if_neg c13] at H;have c13b0 : ((s0_0.length : Int) == 0) = false := beq_eq_false_iff_ne.mpr c13;have c13b1 : ((s0_0.length : Int) != 0) = true := bne_iff_ne.mpr c13;have c13b2 : ¬ (s0_0 = []) := fun h_ => c13 (by rw [h_]; rfl)
   obtain ⟨ji14, hji14⟩ : ∃ j_ : Int, (Int.tmod (wrap64 ((wrap64 (s0_1 + 1)) - 1)) (s0_0.length : Int)) = j_ := ⟨_, rfl⟩;replace H : (if 0 ≤ (ji14) then (if (ji14) < (s0_0.length : Int) then (if 0 ≤ (Int.tmod (wrap64 ((wrap64 ((wrap64 ((wrap64 (s0_1 + 1)) - 1)) * 7)) + 3)) (s0_0.length : Int)) then (if (Int.tmod (wrap64 ((wrap64 ((wrap64 ((wrap64 (s0_1 + 1)) - 1)) * 7)) + 3)) (s0_0.length : Int)) < (s0_0.length : Int) then (if a1 = 0 then (none) else (some (Int.tmod (Go.bits .xor .i64 (wrap64 ((wrap64 ((wrap64 ((wrap64 ((wrap64 (rd s0_0 (ji14))) * 131)) + (wrap64 ((wrap64 (rd s0_0 (Int.tmod (wrap64 ((wrap64 ((wrap64 ((wrap64 (s0_1 + 1)) - 1)) * 7)) + 3)) (s0_0.length : Int)))) * 1117)))) + (wrap64 ((wrap64 ((wrap64 (s0_1 + 1)) - 1)) * 29)))) + (wrap64 ((wrap64 (Int.tdiv (wrap64 ((wrap64 (s0_1 + 1)) - 1)) (s0_0.length : Int))) * 53)))) (wrap64 (Int.tdiv (wrap64 ((wrap64 ((wrap64 ((wrap64 ((wrap64 (rd s0_0 (ji14))) * 131)) + (wrap64 ((wrap64 (rd s0_0 (Int.tmod (wrap64 ((wrap64 ((wrap64 ((wrap64 (s0_1 + 1)) - 1)) * 7)) + 3)) (s0_0.length : Int)))) * 1117)))) + (wrap64 ((wrap64 ((wrap64 (s0_1 + 1)) - 1)) * 29)))) + (wrap64 ((wrap64 (Int.tdiv (wrap64 ((wrap64 (s0_1 + 1)) - 1)) (s0_0.length : Int))) * 53)))) 64))) a1, (wrap64 (s0_1 + 1))))) else (none)) else (none)) else (none)) else (none)) = some (r1, r2) := by first | (rw [hji14] at H; exact H) | (simp only [hji14] at H ⊢; exact H)
   by_cases c15 : 0 ≤ (ji14)
   ·rw [if_pos c15] at H;have c15b0 : decide (0 ≤ (ji14)) = true := decide_eq_true c15;clear c15
    by_cases c16 : (ji14) < (s0_0.length : Int)
    ·rw [if_pos c16] at H;have c16b0 : decide ((ji14) < (s0_0.length : Int)) = true := decide_eq_true c16;clear c16;obtain ⟨ji17, hji17⟩ : ∃ j_ : Int, (Int.tmod (wrap64 ((wrap64 ((wrap64 ((wrap64 (s0_1 + 1)) - 1)) * 7)) + 3)) (s0_0.length : Int)) = j_ := ⟨_, rfl⟩;replace H : (if 0 ≤ (ji17) then (if (ji17) < (s0_0.length : Int) then (if a1 = 0 then (none) else (some (Int.tmod (Go.bits .xor .i64 (wrap64 ((wrap64 ((wrap64 ((wrap64 ((wrap64 (rd s0_0 (ji14))) * 131)) + (wrap64 ((wrap64 (rd s0_0 (ji17))) * 1117)))) + (wrap64 ((wrap64 ((wrap64 (s0_1 + 1)) - 1)) * 29)))) + (wrap64 ((wrap64 (Int.tdiv (wrap64 ((wrap64 (s0_1 + 1)) - 1)) (s0_0.length : Int))) * 53)))) (wrap64 (Int.tdiv (wrap64 ((wrap64 ((wrap64 ((wrap64 ((wrap64 (rd s0_0 (ji14))) * 131)) + (wrap64 ((wrap64 (rd s0_0 (ji17))) * 1117)))) + (wrap64 ((wrap64 ((wrap64 (s0_1 + 1)) - 1)) * 29)))) + (wrap64 ((wrap64 (Int.tdiv (wrap64 ((wrap64 (s0_1 + 1)) - 1)) (s0_0.length : Int))) * 53)))) 64))) a1, (wrap64 (s0_1 + 1))))) else (none)) else (none)) = some (r1, r2) := by first | (rw [hji17] at H; exact H) | (simp only [hji17] at H ⊢; exact H)
     by_cases c18 : 0 ≤ (ji17)
     ·rw [if_pos c18] at H;have c18b0 : decide (0 ≤ (ji17)) = true := decide_eq_true c18;clear c18
      by_cases c19 : (ji17) < (s0_0.length : Int)
      ·rw [if_pos c19] at H;have c19b0 : decide ((ji17) < (s0_0.length : Int)) = true := decide_eq_true c19;clear c19
       by_cases c20 : a1 = 0
       ·rw [if_pos c20] at H;exact absurd H (by simp)
       rw [if_neg c20] at H;have c20b0 : (a1 == 0) = false := beq_eq_false_iff_ne.mpr c20;have c20b1 : (a1 != 0) = true := bne_iff_ne.mpr c20;simp only [Option.some.injEq, Prod.mk.injEq] at H;obtain ⟨rfl, rfl⟩ := H;obtain ⟨ASz21_0, cSz21_0, HGz21, hgz21, HSz21_0⟩ := HI0.out;have hcz21_0 := cellS64_0 HGz21;have hcz21_1 := cellS64_1 HGz21;have hfz21_1 := blk_frozen HGz21 1;clear HGz21 hgz21;have p105 : 0 ≤ ((ji14) : Int) := of_decide_eq_true am;have q105 : (ji14) < (s0_0.length : Int) := of_decide_eq_true am;obtain ⟨ad105, e105, hx105_0⟩ := Kd.at_int HSz21_0 (ji14) p105 q105;cases e105;replace hx105_0 := pw_cell_below HB.out hx105_0;replace p105 := eq_true p105;replace q105 := eq_true q105;have p106 : 0 ≤ ((ji17) : Int) := of_decide_eq_true am;have q106 : (ji17) < (s0_0.length : Int) := of_decide_eq_true am;obtain ⟨ad106, e106, hx106_0⟩ := Kd.at_int HSz21_0 (ji17) p106 q106;obtain rfl : ad105 = ad106 := (by injection e106);replace hx106_0 := pw_cell_below HB.out hx106_0;replace p106 := eq_true p106;replace q106 := eq_true q106;go_wp2
       repeat (go_quiet (fail); try go_wp2)
       go_ret;exact ⟨by first | rfl | (simp [errW_none, errW_some] <;> rfl) | (simp only [← hji14, ← hji17]; first | rfl | (simp [errW_none, errW_some] <;> rfl)) | (simp [*, errW_none, errW_some] <;> rfl), by exact IsS64.below HI0.out Lat.o, by exact bb HB.out, by exact kk HK.out⟩
      rw [if_neg c19] at H;exact absurd H (by simp)
     rw [if_neg c18] at H;exact absurd H (by simp)
    rw [if_neg c16] at H;exact absurd H (by simp)
   rw [if_neg c15] at H;exact absurd H (by simp)
def spec_l1Rd_of.f (k : Nat) (s0_0 : List Int) (s0_1 : Int) (l1 : List ByteArray) : Option (ByteArray × Int) := (spec_l1Rd_pick.f k s0_0 s0_1 (l1.length : Int)).bind fun bt107 => (if 0 ≤ bt107.1 then (if bt107.1 < (l1.length : Int) then (some (rdOf ByteArray.empty l1 bt107.1, bt107.2)) else (none)) else (none))
theorem spec_l1Rd_of.mono : ∀ a0 a1 a2 k, LeO (spec_l1Rd_of.f k a0 a1 a2) (spec_l1Rd_of.f (k + 1) a0 a1 a2) := by
 intro a0 a1 a2 k;unfold spec_l1Rd_of.f
 repeat' first
   | (with_reducible exact spec_l1Rd_pick.mono _ _ _ _)
   | (with_reducible exact LeO.refl _)
   | (with_reducible exact LeO.none _)
   | (with_reducible refine LeO.ite ?_ ?_)
   | (with_reducible refine LeO.bind ?_ (fun _ => ?_))
   | exact LeO.none _
   | refine LeO.ite ?_ ?_
   | refine LeO.bind ?_ (fun _ => ?_)
set_option maxHeartbeats 8000000 in
set_option maxRecDepth 100000 in
theorem spec_l1Rd_of.calls (k : Nat) (g : Nat) (s0_0 : List Int) (s0_1 : Int) (A1 : Option Addr) (c1 : Nat) (l1 : List ByteArray) (r1 : ByteArray) (r2 : Int) (w0 w : World) (hI : IsS64 w0 w g s0_0 s0_1) (hB : Below w0.heap.size w0 w) (hr1 : Kd.C Kd.string w A1 l1.length l1) (hc1 : l1.length ≤ c1) (hf1 : ∀ ad, A1 = some ad → 0 < l1.length → ad.block ≠ g) (h : spec_l1Rd_of.f k s0_0 s0_1 l1 = some (r1, r2)) :
  Calls Try.prog 20 #[.pointer (some ⟨g, 0, none⟩), .slice A1 l1.length c1] w fun e w' => e = .returned (.string r1) ∧ IsS64 w0 w' g s0_0 r2 ∧ Below w0.heap.size w0 w' ∧ KeepBut w w' g none := by
 have HR1 := Aside0.mk hr1;have HC1 := Aside0.mk hc1;clear hr1 hc1;have HI0 := Aside0.mk hI;have HK := Aside0.mk (KeepBut.refl w g none);have HL := Aside0.mk hB.size;clear hI;have HW0 := Aside0.mk hB.size;have HB := Aside0.mk hB;clear hB;have H : ((spec_l1Rd_pick.f k s0_0 s0_1 (l1.length : Int)).bind fun bt107 => (if 0 ≤ bt107.1 then (if bt107.1 < (l1.length : Int) then (some (rdOf ByteArray.empty l1 bt107.1, bt107.2)) else (none)) else (none))) = some (r1, r2) := h;clear h;replace H := Option.bind_eq_some_iff.mp H;obtain ⟨⟨t107, t108⟩, A30, H⟩ := H;replace H : (if 0 ≤ t107 then (if t107 < (l1.length : Int) then (some (rdOf ByteArray.empty l1 t107, t108)) else (none)) else (none)) = some (r1, r2) := H;have A3 := Aside0.mk A30;clear A30
 by_cases c4 : 0 ≤ t107
 ·rw [if_pos c4] at H;have c4b0 : decide (0 ≤ t107) = true := decide_eq_true c4;clear c4
  by_cases c5 : t107 < (l1.length : Int)
  ·rw [if_pos c5] at H;have c5b0 : decide (t107 < (l1.length : Int)) = true := decide_eq_true c5;clear c5;simp only [Option.some.injEq, Prod.mk.injEq] at H;obtain ⟨rfl, rfl⟩ := H
   go_enter Try.func20, Try.ntmps20
   go_wp2_with (first | ((with_reducible refine gate_callee (f := 19) rfl ?_); refine gL 9 Try.func19 #[.pointer (some ⟨g, 0, none⟩), .int .i64 (l1.length : Int)] ?_; (with_reducible refine (spec_l1Rd_pick.calls k g s0_0 s0_1 (l1.length : Int) t107 t108 w0 _ ?side1 ?side2 A3.out).mono ?_); (case side1 => exact IsS64.below HI0.out Lat.o); (case side2 => exact bb HB.out); rintro e w6 ⟨rfl, hi, hb, hk⟩; refine ⟨_, rfl, ?_⟩; replace HK := Aside0.mk (KeepBut.trans (by exact kk HK.out) hk (.inl rfl)); replace HB := Aside0.mk (hb); replace HI0 := Aside0.mk (hi); (try clear hb); (try clear hb2); (try clear hk); (try clear hi); have p109 : 0 ≤ (t107 : Int) := of_decide_eq_true am; have q109 : t107 < (l1.length : Int) := of_decide_eq_true am; obtain ⟨ad109, e109, hx109_0⟩ := Kd.at_string HR1.out t107 p109 q109; cases e109; replace hx109_0 := keep_cell HK.out hx109_0 (by first | (rw [add_block]; exact hf1 _ rfl (by omega)) | exact hf1 _ rfl (by omega) | exact hf1 ad109 rfl (by omega)); replace p109 := eq_true p109; replace q109 := eq_true q109));go_ret;exact ⟨by first | rfl | (simp [errW_none, errW_some] <;> rfl) | (simp [*, errW_none, errW_some] <;> rfl), by exact IsS64.below HI0.out Lat.o, by exact bb HB.out, by exact kk HK.out⟩
  rw [if_neg c5] at H;exact absurd H (by simp)
 rw [if_neg c4] at H;exact absurd H (by simp)
mutual
def spec_l1Many.l0 : Nat → ByteArray → Int → ByteArray → Option (ByteArray)
 | 0, _, _, _ => none
 | k + 1, x0, x1, x5 => if x1 > 0 then (if (Int.tmod x1 2) = 1 then (if x5.size + x0.size ≤ 9223372036854775807 then (spec_l1Many.j1 k x0 x1 (x5 ++ x0)) else (none)) else (spec_l1Many.j1 k x0 x1 x5)) else (some x5)
def spec_l1Many.j1 : Nat → ByteArray → Int → ByteArray → Option (ByteArray)
 | 0, _, _, _ => none
 | k + 1, x0, x1, x5 => if x0.size + x0.size ≤ 9223372036854775807 then (spec_l1Many.l0 k (x0 ++ x0) (wrap64 (Int.tdiv x1 2)) x5) else (none)
end
def spec_l1Many.f (k : Nat) (a0 : ByteArray) (a1 : Int) : Option (ByteArray) := spec_l1Many.l0 k a0 a1 (⟨#[]⟩ : ByteArray)
theorem spec_l1Many.mono_l : ∀ k, (∀ y0 y1 y2, LeO (spec_l1Many.l0 k y0 y1 y2) (spec_l1Many.l0 (k + 1) y0 y1 y2)) ∧ (∀ y0 y1 y2, LeO (spec_l1Many.j1 k y0 y1 y2) (spec_l1Many.j1 (k + 1) y0 y1 y2))
 | 0 => ⟨fun _ _ _ r h => by simp [spec_l1Many.l0] at h, fun _ _ _ r h => by simp [spec_l1Many.j1] at h⟩
 | k + 1 => by
  obtain ⟨ih0, ih1⟩ := spec_l1Many.mono_l k;refine ⟨?_, ?_⟩;intro y0 y1 y2; unfold spec_l1Many.l0; rotate_left
  intro y0 y1 y2; unfold spec_l1Many.j1; rotate_left
  all_goals repeat' first
   | (with_reducible exact ih0 _ _ _)
   | (with_reducible exact ih1 _ _ _)
   | (with_reducible exact LeO.refl _)
   | (with_reducible exact LeO.none _)
   | (with_reducible refine LeO.ite ?_ ?_)
   | (with_reducible refine LeO.bind ?_ (fun _ => ?_))
   | exact LeO.none _
   | refine LeO.ite ?_ ?_
   | refine LeO.bind ?_ (fun _ => ?_)
theorem spec_l1Many.mono : ∀ a0 a1 k, LeO (spec_l1Many.f k a0 a1) (spec_l1Many.f (k + 1) a0 a1) := by
 intro a0 a1 k;obtain ⟨ih0, ih1⟩ := spec_l1Many.mono_l k;unfold spec_l1Many.f
 repeat' first
   | (with_reducible exact ih0 _ _ _)
   | (with_reducible exact ih1 _ _ _)
   | (with_reducible exact LeO.refl _)
   | (with_reducible exact LeO.none _)
   | (with_reducible refine LeO.ite ?_ ?_)
   | (with_reducible refine LeO.bind ?_ (fun _ => ?_))
   | exact LeO.none _
   | refine LeO.ite ?_ ?_
   | refine LeO.bind ?_ (fun _ => ?_)
set_option maxHeartbeats 8000000 in
set_option maxRecDepth 100000 in
theorem spec_l1Many.calls (k : Nat) (a0 : ByteArray) (a1 : Int) (r : ByteArray) (w : World) (h : spec_l1Many.f k a0 a1 = some r) :
  Calls Try.prog 21 #[.string a0, .int .i64 a1] w fun e w' => e = .returned (.string r) ∧ Below w.heap.size w w' := by
 have HB := Aside0.mk (Below.refl w.heap.size w);have H : (spec_l1Many.l0 k a0 a1 (⟨#[]⟩ : ByteArray)) = some r := h;clear h;have H' := Aside0.mk H;clear H
 go_enter Try.func21, Try.ntmps21
 go_wp2
 go_loopg [0, 1, 5] k (fun kq v0 v1 v5 w' => ∃ (x0_1 : ByteArray) (x1_1 : Int) (x5_1 : ByteArray), v0 = .string x0_1 ∧ v1 = .int .i64 x1_1 ∧ v5 = .string x5_1 ∧ Aside0 (spec_l1Many.l0 kq x0_1 x1_1 x5_1 = some r) ∧ Aside0 (kq ≤ k) ∧ Aside0 (Below w.heap.size w w'))
 case atStart => exact ⟨(a0), (a1), ((⟨#[]⟩ : ByteArray)), rs, rs, rs, H', ⟨Nat.le_refl _⟩, ⟨by exact bb HB.out⟩⟩
 case round =>
  clear H';try clear c2
  try clear p2
  obtain ⟨x0_1, x1_1, x5_1, rfl, rfl, rfl, HA, HK1, HB⟩ := hrel
  cases gk with
  | zero => exact absurd HA.out (by simp [spec_l1Many.l0])
  | succ k1 =>
   have H := HA.out;clear HA;simp only [spec_l1Many.l0] at H
   by_cases c3 : x1_1 > 0
   ·rw [if_pos c3] at H;have c3b0 : decide (0 < x1_1) = true := decide_eq_true c3;clear c3;have HC4 := Aside0.mk H;clear H
    go_upto_if 10 with (fail)
    go_cut [5] (fun v5 wc => ∃ (kq : Nat) (x5_3 : ByteArray), v5 = .string x5_3 ∧ Aside0 (spec_l1Many.j1 kq x0_1 x1_1 x5_3 = some r) ∧ Aside0 (kq ≤ k1) ∧ Aside0 (Below w.heap.size w wc))
    case first =>
     have H := HC4.out;clear HC4
     by_cases c5 : (Int.tmod x1_1 2) = 1
     ·rw [if_pos c5] at H;have c5b0 : ((Int.tmod x1_1 2) == 1) = true := beq_iff_eq.mpr c5;have c5b1 : ((Int.tmod x1_1 2) != 1) = false := bne_eq_false_iff_eq.mpr c5;clear c5;(first | rw [c5b0] | (simp only [i64_w, i32_w]; rw [c5b0]) | skip)
      by_cases c6 : x5_1.size + x0_1.size ≤ 9223372036854775807
      ·rw [if_pos c6] at H;have c6b0 := eq_true c6;have c6b1 : decide (x5_1.size + x0_1.size ≤ 9223372036854775807) = true := decide_eq_true c6
       try have c6b2 : (9223372036854775807 < x5_1.size + x0_1.size) = False := eq_false (Nat.not_lt.2 c6)
       have H' := Aside0.mk H;clear H;go_wp2
       go_meet
       case rel => exact ⟨_, (x5_1 ++ x0_1), rs, H', ⟨by have := HK1.out; first | omega | exact Nat.le_refl _⟩, ⟨by exact bb HB.out⟩⟩
      rw [if_neg c6] at H;exact absurd H (by simp)
     rw [if_neg c5] at H;have c5b0 : ((Int.tmod x1_1 2) == 1) = false := beq_eq_false_iff_ne.mpr c5;have c5b1 : ((Int.tmod x1_1 2) != 1) = true := bne_iff_ne.mpr c5;(first | rw [c5b0] | (simp only [i64_w, i32_w]; rw [c5b0]) | skip);have H' := Aside0.mk H;clear H;go_wp2
     go_meet
     case rel => exact ⟨_, (x5_1), rs, H', ⟨by have := HK1.out; first | omega | exact Nat.le_refl _⟩, ⟨by exact bb HB.out⟩⟩
    case rest =>
     clear HC4;(try clear c2);(try clear p2);(try clear c3);(try clear c3b0);(try clear c5);(try clear c5b0);(try clear c5b1);(try clear c6);(try clear c6b0);(try clear c6b1);(try clear c6b2);(try clear p2);obtain ⟨kq, x5_3, rfl, HA, HJ3, HB⟩ := hcut
     cases kq with
     | zero => exact absurd HA.out (by simp [spec_l1Many.j1])
     | succ kj3 =>
      have H := HA.out;clear HA;simp only [spec_l1Many.j1] at H
      by_cases c7 : x0_1.size + x0_1.size ≤ 9223372036854775807
      ·rw [if_pos c7] at H;have c7b0 := eq_true c7;have c7b1 : decide (x0_1.size + x0_1.size ≤ 9223372036854775807) = true := decide_eq_true c7
       try have c7b2 : (9223372036854775807 < x0_1.size + x0_1.size) = False := eq_false (Nat.not_lt.2 c7)
       have H' := Aside0.mk H;clear H;go_wp2
       go_roundg kj3
       case measure => have := HK1.out; have := HJ3.out; omega
       case rel => exact ⟨(x0_1 ++ x0_1), (wrap64 (Int.tdiv x1_1 2)), (x5_3), rs, rs, rs, H', ⟨by have := HK1.out; have := HJ3.out; omega⟩, ⟨by exact bb HB.out⟩⟩
      rw [if_neg c7] at H;exact absurd H (by simp)
   rw [if_neg c3] at H;have c3b0 : decide (0 < x1_1) = false := decide_eq_false c3;clear c3;obtain rfl := Option.some.inj H;go_wp2;go_ret;exact ⟨by first | rfl | (simp [errW_none, errW_some] <;> rfl) | (simp [*, errW_none, errW_some] <;> rfl), by exact bb HB.out⟩
def spec_l9Copy.f (a0_0 : Int) (l0_1 : List (S38)) : Option (Int × (List (S38))) := (some (([] : List (S38)) : List (S38))).bind fun y112 => (if y112.length + l0_1.length < 2932031007402 then (some (a0_0, (y112 ++ l0_1))) else (none))
set_option maxHeartbeats 8000000 in
set_option maxRecDepth 100000 in
theorem spec_l9Copy.calls (a0_0 : Int) (A0_1 : Option Addr) (c0_1 : Nat) (l0_1 : List (S38)) (r1 : Int) (r2 : List (S38)) (w : World) (hr0_1 : Kd.C k38 w A0_1 l0_1.length l0_1) (hc0_1 : l0_1.length ≤ c0_1) (h : spec_l9Copy.f a0_0 l0_1 = some (r1, r2)) :
  Calls Try.prog 24 #[.agg #[.int .i64 a0_0, .slice A0_1 l0_1.length c0_1]] w fun e w' => ∃ v1_ : Value, e = .returned (.agg #[.int .i64 r1, v1_]) ∧ Kd.R k38 38 w' w.heap.size (fun _ => True) v1_ r2 ∧ Below w.heap.size w w' := by
 have hu25 := Try.underlying25;have HR0_1 := Aside0.mk hr0_1;have HC0_1 := Aside0.mk hc0_1;clear hr0_1 hc0_1;have HB := Aside0.mk (Below.refl w.heap.size w);have H : ((some (([] : List (S38)) : List (S38))).bind fun y112 => (if y112.length + l0_1.length < 2932031007402 then (some (a0_0, (y112 ++ l0_1))) else (none))) = some (r1, r2) := h;clear h;obtain ⟨y112, hy112⟩ : ∃ y_ : List (S38), y_ = (([] : List (S38))) := ⟨_, rfl⟩;replace H : (if y112.length + l0_1.length < 2932031007402 then (some (a0_0, (y112 ++ l0_1))) else (none)) = some (r1, r2) := by first | (rw [hy112]; with_reducible exact H) | (have H2_ := (Option.bind_some _ _).symm.trans H; rw [hy112]; with_reducible exact H2_) | (have H2_ := (Option.bind_some _ _).symm.trans H; with_reducible exact H2_) | with_reducible exact H | (rw [hy112]; exact H) | exact H
 have Ny112 := Aside0.mk hy112;clear hy112
 by_cases c2 : y112.length + l0_1.length < 2932031007402
 ·rw [if_pos c2] at H;have LMc2 := Aside0.mk c2;clear c2;obtain ⟨y115, hy115⟩ : ∃ y_ : List (S38), y_ = (y112 ++ l0_1) := ⟨_, rfl⟩;replace H : (some (a0_0, y115)) = some (r1, r2) := by first | (rw [hy115]; with_reducible exact H) | (have H2_ := (Option.bind_some _ _).symm.trans H; rw [hy115]; with_reducible exact H2_) | (have H2_ := (Option.bind_some _ _).symm.trans H; with_reducible exact H2_) | with_reducible exact H | (rw [hy115]; exact H) | exact H
  have Ny115 := Aside0.mk hy115;clear hy115;simp only [Option.some.injEq, Prod.mk.injEq] at H;obtain ⟨rfl, rfl⟩ := H
  go_enter Try.func24, Try.ntmps24
  go_wp2_with (first | ((with_reducible refine gate_dst (N := 1) rfl ?_); refine bv 1 #[.int .i64 a0_0, .slice A0_1 l0_1.length c0_1] 25 ?_; intro gb110 hg w3 hbox hb; have BK110 := Aside0.mk (hbox); have GW110 := gw HB hg; have GE110 := gw HB hg; replace HB := hbb HB hb; clear hb hbox hg) | ((with_reducible refine gate_dst (N := 2) rfl ?_); refine bv 2 #[.int .i64 0, .slice none 0 0] 25 ?_; intro gb111 hg w4 hbox hb; have BK111 := Aside0.mk (hbox); have GW111 := gw HB hg; have GE111 := gw HB hg; have NB110_111 := nl BK110 hg; have NB111_110 := ng BK110 hg; replace BK110 := kb BK110 hb; replace HB := hbb HB hb; clear hb hbox hg) | ((with_reducible refine gate_dst (N := 3) rfl ?_); refine rL k38 38 3 ([] : List (S38)) [] ?_; intro v113 w5 ho6 hb hg_ hnew_; clear hg_ hnew_; (first | rw [← Ny112.out] at ho6 | (simp only [Int.reduceToNat] at ho6; rw [← Ny112.out] at ho6)); have HO114 := Aside0.mk (Kd.R_lower ho6 (below_size (by exact bb HB.out))); replace BK110 := kb BK110 hb; replace BK111 := kb BK111 hb; replace HB := hbb HB hb; clear hb ho6; have hnb7 := NB110_111.out; have hnc7 := NB111_110.out; obtain ⟨hcz8_0, hcz8_1, hfz8_0, hfz8_1⟩ := c2 BK110) | ((with_reducible refine gate_builtin (b := .append) (xs := #[.tmp 3, .tmp 5]) rfl ?_); at_builtin; refine Kd.R_append_rows k38 (w0 := w) w.heap.size rfl (.tmp 3) (.tmp 5) 23 38 (.agg #[(.int .i64 0), (.string ⟨#[]⟩), (.int .i64 0), (.string ⟨#[]⟩)]) 48 rfl Try.underlying23 info38 rfl (by decide) (by omega) v113 y112 l0_1 _ _ _ (fun _ => True) (fun _ => False) rfl rfl ?aO ?aR (fun _ _ h => h) (fun _ h => h.elim) ?aF ?aB ?aS ?aL ?_; (case aR => repeat (first | exact (Kd.C_below HR0_1.out HB.out) | (with_reducible refine Kd.C_alloc ?_ _) | (with_reducible refine Kd.C_drewN ?_ _) | (with_reducible refine Kd.C_drew ?_))); (case aB => exact (by exact bb HB.out)); (case aF => exact (fun _ _ => trivial)); (case aO => exact (by exact rl HO114)); (case aS => exact (below_size (by exact bb HB.out))); (case aL => have := LMc2.out; omega); intro v116 w9 ho hb hg hat; rw [← Ny115.out] at ho; have HO117 := Aside0.mk (ho); replace BK110 := Aside0.mk (blk_grown (bl BK110.out) hg (Kd.R_ne HO114.out BK110.out (by decide))); replace BK111 := Aside0.mk (blk_grown (bl BK111.out) hg (Kd.R_ne HO114.out BK111.out (by decide))); replace HB := Aside0.mk (hb); clear HO114; clear ho hb hg hat; obtain ⟨Ao10, co10, eo10⟩ := Kd.R_slice HO117.out; subst eo10; obtain ⟨hcz11_0, hcz11_1, hfz11_0, hfz11_1⟩ := c2 BK110; obtain ⟨hcz12_0, hcz12_1, hfz12_0, hfz12_1⟩ := c2 BK111));refine bodyPost_ret (results_cell_row rfl _ _ gb111 25 #[.int .i64 a0_0, .slice Ao10 y115.length co10] (0, 0) _ rfl (by (with_reducible repeat (first | refine blk_drewN ?_ _ | refine blk_drew ?_ | refine blk_alloc ?_ _)); refine blk_put (cs := #[.int .i64 a0_0, .slice none 0 0]) ?_ 1 _ rfl; (with_reducible repeat (first | refine blk_drewN ?_ _ | refine blk_drew ?_ | refine blk_alloc ?_ _)); refine blk_put (cs := #[.int .i64 0, .slice none 0 0]) ?_ 0 _ rfl; (with_reducible repeat (first | refine blk_drewN ?_ _ | refine blk_drew ?_ | refine blk_alloc ?_ _)); refine blk_far ?_ NB111_110.out _; (with_reducible repeat (first | refine blk_drewN ?_ _ | refine blk_drew ?_ | refine blk_alloc ?_ _)); exact BK111.out) Try.underlying25 rfl (by kernel_rfl)) rfl ?_;exact ⟨_, by first | rfl | (simp [errW_none, errW_some] <;> rfl) | (simp [*, errW_none, errW_some] <;> rfl), by (with_reducible repeat (first | apply Kd.R_alloc | apply Kd.R_drewN | apply Kd.R_drew)); exact Kd.R_mono (Kd.R_far (p := ⟨gb111, 1, none⟩) (Kd.R_far (p := ⟨gb111, 0, none⟩) (Kd.R_far (p := ⟨gb110, 1, none⟩) (Kd.R_types (Kd.R_types HO117.out BK110.out (by decide)) BK111.out (by decide)) (fun _ hk => hk.1.2) (.slice Ao10 y115.length co10)) (fun _ hk => hk.2) (.int .i64 a0_0)) (fun _ hk => hk.2) (.slice Ao10 y115.length co10)) (fun _ hk => trivial), by repeat (first | (with_reducible first | exact HB.out | apply below_alloc | apply pw_below_drewN | apply below_drew1 | refine below_set ?_ GE110.out | refine below_set ?_ GE111.out) | exact HB.out)⟩
 rw [if_neg c2] at H;exact absurd H (by simp)
def spec_l1In.f (a0 : Int) (a1 : Int) (a2 : Int) : Option (Bool) := if a0 ≥ a1 then (some (decide (a0 ≤ a2))) else (some false)
set_option maxHeartbeats 8000000 in
set_option maxRecDepth 100000 in
theorem spec_l1In.calls (a0 : Int) (a1 : Int) (a2 : Int) (r : Bool) (w : World) (h : spec_l1In.f a0 a1 a2 = some r) :
  Calls Try.prog 28 #[.int .i64 a0, .int .i64 a1, .int .i64 a2] w fun e w' => e = .returned (.bool r) ∧ Drawn0 w w' := by
 have H : (if a0 ≥ a1 then (some (decide (a0 ≤ a2))) else (some false)) = some r := h;clear h
 by_cases c4 : a0 ≥ a1
 ·rw [if_pos c4] at H;have c4b0 : decide (a1 ≤ a0) = true := decide_eq_true c4;clear c4;obtain rfl := Option.some.inj H
  go_enter Try.func28, Try.ntmps28
  go_wp2;go_ret;exact ⟨by first | rfl | (simp; done) | (simp [*]; done), by repeat (first | exact Drawn0.refl _ | apply Drawn0.step)⟩
 rw [if_neg c4] at H;have c4b0 : decide (a1 ≤ a0) = false := decide_eq_false c4;clear c4;obtain rfl := Option.some.inj H
 go_enter Try.func28, Try.ntmps28
 go_wp2;go_ret;exact ⟨by first | rfl | (simp; done) | (simp [*]; done), by repeat (first | exact Drawn0.refl _ | apply Drawn0.step)⟩
mutual
def spec_NameOk.l0 : Nat → ByteArray → Int → Option (Bool)
 | 0, _, _ => none
 | k + 1, x0, x3 => if x3 < (x0.size : Int) then (if 0 ≤ x3 then (if (bt x0 x3) < 97 then (spec_NameOk.j1 k x0 x3 true) else (spec_NameOk.j1 k x0 x3 (decide ((bt x0 x3) > 122)))) else (none)) else ((spec_l1In.f (x0.size : Int) 1 6).bind fun t118 => (some t118))
def spec_NameOk.j1 : Nat → ByteArray → Int → Bool → Option (Bool)
 | 0, _, _, _ => none
 | k + 1, x0, x3, x19 => if x19 = true then (some false) else (spec_NameOk.l0 k x0 (wrap64 (x3 + 1)))
end
def spec_NameOk.f (k : Nat) (a0 : ByteArray) : Option (Bool) := spec_NameOk.l0 k a0 0
theorem spec_NameOk.mono_l : ∀ k, (∀ y0 y1, LeO (spec_NameOk.l0 k y0 y1) (spec_NameOk.l0 (k + 1) y0 y1)) ∧ (∀ y0 y1 y2, LeO (spec_NameOk.j1 k y0 y1 y2) (spec_NameOk.j1 (k + 1) y0 y1 y2))
 | 0 => ⟨fun _ _ r h => by simp [spec_NameOk.l0] at h, fun _ _ _ r h => by simp [spec_NameOk.j1] at h⟩
 | k + 1 => by
  obtain ⟨ih0, ih1⟩ := spec_NameOk.mono_l k;refine ⟨?_, ?_⟩;intro y0 y1; unfold spec_NameOk.l0; rotate_left
  intro y0 y1 y2; unfold spec_NameOk.j1; rotate_left
  all_goals repeat' first
   | (with_reducible exact ih0 _ _)
   | (with_reducible exact ih1 _ _ _)
   | (with_reducible exact LeO.refl _)
   | (with_reducible exact LeO.none _)
   | (with_reducible refine LeO.ite ?_ ?_)
   | (with_reducible refine LeO.bind ?_ (fun _ => ?_))
   | exact LeO.none _
   | refine LeO.ite ?_ ?_
   | refine LeO.bind ?_ (fun _ => ?_)
theorem spec_NameOk.mono : ∀ a0 k, LeO (spec_NameOk.f k a0) (spec_NameOk.f (k + 1) a0) := by
 intro a0 k;obtain ⟨ih0, ih1⟩ := spec_NameOk.mono_l k;unfold spec_NameOk.f
 repeat' first
   | (with_reducible exact ih0 _ _)
   | (with_reducible exact ih1 _ _ _)
   | (with_reducible exact LeO.refl _)
   | (with_reducible exact LeO.none _)
   | (with_reducible refine LeO.ite ?_ ?_)
   | (with_reducible refine LeO.bind ?_ (fun _ => ?_))
   | exact LeO.none _
   | refine LeO.ite ?_ ?_
   | refine LeO.bind ?_ (fun _ => ?_)
set_option maxHeartbeats 8000000 in
set_option maxRecDepth 100000 in
theorem spec_NameOk.calls (k : Nat) (a0 : ByteArray) (r : Bool) (w : World) (h : spec_NameOk.f k a0 = some r) :
  Calls Try.prog 41 #[.string a0] w fun e w' => e = .returned (.bool r) ∧ Drawn0 w w' := by
 have H : (spec_NameOk.l0 k a0 0) = some r := h;clear h;have H' := Aside0.mk H;clear H
 go_enter Try.func41, Try.ntmps41
 go_wp2
 go_loopg [3] k (fun kq v3 w' => ∃ (x3_1 : Int), v3 = .int .i64 x3_1 ∧ Aside0 (spec_NameOk.l0 kq a0 x3_1 = some r) ∧ Aside0 (kq ≤ k) ∧ Drawn0 w w')
 case atStart => exact ⟨(0), rs, H', ⟨Nat.le_refl _⟩, by repeat (first | exact Drawn0.refl _ | apply Drawn0.step)⟩
 case round =>
  clear H';obtain ⟨x3_1, rfl, HA, HK1, ⟨m1, rfl⟩⟩ := hrel
  cases gk with
  | zero => exact absurd HA.out (by simp [spec_NameOk.l0])
  | succ k1 =>
   have H := HA.out;clear HA;simp only [spec_NameOk.l0] at H
   by_cases c2 : x3_1 < (a0.size : Int)
   ·rw [if_pos c2] at H;have c2b0 : decide (x3_1 < (a0.size : Int)) = true := decide_eq_true c2;clear c2;have HC3 := Aside0.mk H;clear H
    go_upto_region 4 with (fail)
    go_cut [19] (fun v19 wc => ∃ (kq : Nat) (x19_2 : Bool), v19 = .bool x19_2 ∧ Aside0 (spec_NameOk.j1 kq a0 x3_1 x19_2 = some r) ∧ Aside0 (kq ≤ k1) ∧ Drawn0 w wc)
    case first =>
     have H := HC3.out;clear HC3
     by_cases c4 : 0 ≤ x3_1
     ·rw [if_pos c4] at H;have c4b0 : decide (0 ≤ x3_1) = true := decide_eq_true c4;clear c4;(first | rw [c4b0] | (simp only [i64_w, i32_w]; rw [c4b0]) | skip)
      by_cases c6 : (bt a0 x3_1) < 97
      ·rw [if_pos c6] at H;have c6b0 : decide ((bt a0 x3_1) < 97) = true := decide_eq_true c6;clear c6;have H' := Aside0.mk H;clear H;have p5 : 0 ≤ (x3_1 : Int) := of_decide_eq_true am;have q5 : x3_1 < (a0.size : Int) := of_decide_eq_true am;have hx5 := bt_at a0 x3_1;replace p5 := eq_true p5;replace q5 := eq_true q5;go_wp2
       go_meet
       case rel => exact ⟨_, (true), rs, H', ⟨by have := HK1.out; first | omega | exact Nat.le_refl _⟩, by repeat (first | exact Drawn0.refl _ | apply Drawn0.step)⟩
      rw [if_neg c6] at H;have c6b0 : decide ((bt a0 x3_1) < 97) = false := decide_eq_false c6;clear c6;have H' := Aside0.mk H;clear H;have p5 : 0 ≤ (x3_1 : Int) := of_decide_eq_true am;have q5 : x3_1 < (a0.size : Int) := of_decide_eq_true am;have hx5 := bt_at a0 x3_1;replace p5 := eq_true p5;replace q5 := eq_true q5;have p7 : 0 ≤ (x3_1 : Int) := of_decide_eq_true am;have q7 : x3_1 < (a0.size : Int) := of_decide_eq_true am;have hx7 := bt_at a0 x3_1;replace p7 := eq_true p7;replace q7 := eq_true q7;go_wp2
      go_meet
      case rel => exact ⟨_, (decide ((bt a0 x3_1) > 122)), rs, H', ⟨by have := HK1.out; first | omega | exact Nat.le_refl _⟩, by repeat (first | exact Drawn0.refl _ | apply Drawn0.step)⟩
     rw [if_neg c4] at H;exact absurd H (by simp)
    case rest =>
     clear HC3;(try clear c2);(try clear c2b0);(try clear p2);(try clear c4);(try clear c4b0);(try clear p5);(try clear q5);(try clear hx5);(try clear c6);(try clear c6b0);(try clear p7);(try clear q7);(try clear hx7);(try clear p5);(try clear p7);(try clear q5);(try clear q7);obtain ⟨kq, x19_2, rfl, HA, HJ2, ⟨mc2, rfl⟩⟩ := hcut
     cases kq with
     | zero => exact absurd HA.out (by simp [spec_NameOk.j1])
     | succ kj2 =>
      have H := HA.out;clear HA;simp only [spec_NameOk.j1] at H
      by_cases c8 : x19_2 = true
      ·subst c8;rw [if_pos rfl] at H;obtain rfl := Option.some.inj H;go_wp2;go_ret;exact ⟨by first | rfl | (simp; done) | (simp [*]; done), by repeat (first | exact Drawn0.refl _ | apply Drawn0.step)⟩
      replace c8 := Bool.eq_false_iff.mpr c8;subst c8;rw [if_neg (show ¬ (false = true) by decide)] at H;have H' := Aside0.mk H;clear H;go_wp2
      go_roundg kj2
      case measure => have := HK1.out; have := HJ2.out; omega
      case rel => exact ⟨(wrap64 (x3_1 + 1)), rs, H', ⟨by have := HK1.out; have := HJ2.out; omega⟩, by repeat (first | exact Drawn0.refl _ | apply Drawn0.step)⟩
   ·rw [if_neg c2] at H;have c2b0 : decide (x3_1 < (a0.size : Int)) = false := decide_eq_false c2;clear c2;replace H := Option.bind_eq_some_iff.mp H;obtain ⟨t118, A90, H⟩ := H;have A9 := Aside0.mk A90;clear A90;obtain rfl := Option.some.inj H;go_wp2_with (first | ((with_reducible refine gate_callee (f := 28) rfl ?_); refine gL 22 Try.func28 #[.int .i64 (a0.size : Int), .int .i64 1, .int .i64 6] ?_; (with_reducible refine (spec_l1In.calls (a0.size : Int) 1 6 t118 _ A9.out).mono ?_); rintro e w' ⟨rfl, ⟨nd, rfl⟩⟩; refine ⟨_, rfl, ?_⟩));go_ret;exact ⟨by first | rfl | (simp; done) | (simp [*]; done), by repeat (first | exact Drawn0.refl _ | apply Drawn0.step)⟩
def spec_l9Ok.j0 : Nat → Bool → Option (Bool)
 | 0, _ => none
 | k + 1, x2 => some x2
def spec_l9Ok.f (k : Nat) (a0_0 : Int) (a0_1 : ByteArray) (a0_2 : Int) (a0_3 : ByteArray) : Option (Bool) := (spec_l1In.f a0_0 0 1).bind fun t120 => (if t120 = true then ((spec_NameOk.f k a0_1).bind fun t121 => (if t121 = true then ((spec_l1In.f (a0_3.size : Int) 1 300).bind fun t122 => (spec_l9Ok.j0 k t122)) else (spec_l9Ok.j0 k false))) else (spec_l9Ok.j0 k false))
theorem spec_l9Ok.mono_l : ∀ k, (∀ y0, LeO (spec_l9Ok.j0 k y0) (spec_l9Ok.j0 (k + 1) y0))
 | 0 => fun _ r h => by simp [spec_l9Ok.j0] at h
 | k + 1 => by
  have ih0 := spec_l9Ok.mono_l k;intro y0;unfold spec_l9Ok.j0
  repeat' first
  | (with_reducible exact ih0 _)
  | (with_reducible exact spec_NameOk.mono _ _)
  | (with_reducible exact LeO.refl _)
  | (with_reducible exact LeO.none _)
  | (with_reducible refine LeO.ite ?_ ?_)
  | (with_reducible refine LeO.bind ?_ (fun _ => ?_))
  | exact LeO.none _
  | refine LeO.ite ?_ ?_
  | refine LeO.bind ?_ (fun _ => ?_)
theorem spec_l9Ok.mono : ∀ a0 a1 a2 a3 k, LeO (spec_l9Ok.f k a0 a1 a2 a3) (spec_l9Ok.f (k + 1) a0 a1 a2 a3) := by
 intro a0 a1 a2 a3 k;have ih0 := spec_l9Ok.mono_l k;unfold spec_l9Ok.f
 repeat' first
   | (with_reducible exact ih0 _)
   | (with_reducible exact spec_NameOk.mono _ _)
   | (with_reducible exact LeO.refl _)
   | (with_reducible exact LeO.none _)
   | (with_reducible refine LeO.ite ?_ ?_)
   | (with_reducible refine LeO.bind ?_ (fun _ => ?_))
   | exact LeO.none _
   | refine LeO.ite ?_ ?_
   | refine LeO.bind ?_ (fun _ => ?_)
set_option maxHeartbeats 8000000 in
set_option maxRecDepth 100000 in
theorem spec_l9Ok.calls (k : Nat) (a0_0 : Int) (a0_1 : ByteArray) (a0_2 : Int) (a0_3 : ByteArray) (r : Bool) (w : World) (h : spec_l9Ok.f k a0_0 a0_1 a0_2 a0_3 = some r) :
  Calls Try.prog 23 #[.agg #[.int .i64 a0_0, .string a0_1, .int .i64 a0_2, .string a0_3]] w fun e w' => e = .returned (.bool r) ∧ Below w.heap.size w w' := by
 have hu38 := Try.underlying38;have HB := Aside0.mk (Below.refl w.heap.size w);have H : ((spec_l1In.f a0_0 0 1).bind fun t120 => (if t120 = true then ((spec_NameOk.f k a0_1).bind fun t121 => (if t121 = true then ((spec_l1In.f (a0_3.size : Int) 1 300).bind fun t122 => (spec_l9Ok.j0 k t122)) else (spec_l9Ok.j0 k false))) else (spec_l9Ok.j0 k false))) = some r := h;clear h;have HC2 := Aside0.mk H;clear H
 go_enter Try.func23, Try.ntmps23
 go_upto_region 1 with (first | ((with_reducible refine gate_dst (N := 1) rfl ?_); (try (refine gate_guard (by rfl) ?_; dsimp only)); refine bv 1 #[.int .i64 a0_0, .string a0_1, .int .i64 a0_2, .string a0_3] 38 ?_; intro gb119 hg w3 hbox hb; have BK119 := Aside0.mk (hbox); have GW119 := gw HB hg; have GE119 := gw HB hg; replace HB := hbb HB hb; clear hb hbox hg))
 (try simp only [Act.put, sB, s0, s1])
 go_cut [2] (fun v2 wc => ∃ (kq : Nat) (x2_1 : Bool), v2 = .bool x2_1 ∧ Aside0 (spec_l9Ok.j0 kq x2_1 = some r) ∧ Aside0 (kq ≤ k) ∧ Aside0 (wc.heap[gb119]? = some (.cells #[.int .i64 a0_0, .string a0_1, .int .i64 a0_2, .string a0_3] 38 (0, 0))) ∧ Aside0 (Below w.heap.size w wc))
 case first =>
  have H := HC2.out;clear HC2;replace H := Option.bind_eq_some_iff.mp H;obtain ⟨t120, A40, H⟩ := H;have A4 := Aside0.mk A40;clear A40
  by_cases c5 : t120 = true
  ·subst c5;rw [if_pos rfl] at H;replace H := Option.bind_eq_some_iff.mp H;obtain ⟨t121, A60, H⟩ := H;have A6 := Aside0.mk A60;clear A60
   by_cases c7 : t121 = true
   ·subst c7;rw [if_pos rfl] at H;replace H := Option.bind_eq_some_iff.mp H;obtain ⟨t122, A80, H⟩ := H;have A8 := Aside0.mk A80;clear A80;have H' := Aside0.mk H;clear H;obtain ⟨hcz9_0, hcz9_1, hcz9_2, hcz9_3, hfz9_0, hfz9_1, hfz9_2, hfz9_3⟩ := c4 BK119;go_wp2_with (first | ((with_reducible refine gate_callee (f := 28) rfl ?_); refine gL 5 Try.func28 #[.int .i64 a0_0, .int .i64 0, .int .i64 1] ?_; (with_reducible refine (spec_l1In.calls a0_0 0 1 true _ A4.out).mono ?_); rintro e w' ⟨rfl, ⟨nd, rfl⟩⟩; refine ⟨_, rfl, ?_⟩) | (go_at_call 41; (with_reducible refine (spec_NameOk.calls k a0_1 true _ A6.out).mono ?_); rintro e w' ⟨rfl, ⟨nd, rfl⟩⟩) | (go_at_call 28; (with_reducible refine (spec_l1In.calls (a0_3.size : Int) 1 300 t122 _ A8.out).mono ?_); rintro e w' ⟨rfl, ⟨nd, rfl⟩⟩))
    go_meet
    case rel => exact ⟨_, (t122), rs, H', ⟨by first | omega | exact Nat.le_refl _⟩, ⟨bl BK119.out⟩, ⟨by exact bb HB.out⟩⟩
   replace c7 := Bool.eq_false_iff.mpr c7;subst c7;rw [if_neg (show ¬ (false = true) by decide)] at H;have H' := Aside0.mk H;clear H;obtain ⟨hcz10_0, hcz10_1, hcz10_2, hcz10_3, hfz10_0, hfz10_1, hfz10_2, hfz10_3⟩ := c4 BK119;go_wp2_with (first | ((with_reducible refine gate_callee (f := 28) rfl ?_); refine gL 5 Try.func28 #[.int .i64 a0_0, .int .i64 0, .int .i64 1] ?_; (with_reducible refine (spec_l1In.calls a0_0 0 1 true _ A4.out).mono ?_); rintro e w' ⟨rfl, ⟨nd, rfl⟩⟩; refine ⟨_, rfl, ?_⟩) | (go_at_call 41; (with_reducible refine (spec_NameOk.calls k a0_1 false _ A6.out).mono ?_); rintro e w' ⟨rfl, ⟨nd, rfl⟩⟩))
   go_meet
   case rel => exact ⟨_, (false), rs, H', ⟨by first | omega | exact Nat.le_refl _⟩, ⟨bl BK119.out⟩, ⟨by exact bb HB.out⟩⟩
  replace c5 := Bool.eq_false_iff.mpr c5;subst c5;rw [if_neg (show ¬ (false = true) by decide)] at H;have H' := Aside0.mk H;clear H;obtain ⟨hcz11_0, hcz11_1, hcz11_2, hcz11_3, hfz11_0, hfz11_1, hfz11_2, hfz11_3⟩ := c4 BK119;go_wp2_with (first | ((with_reducible refine gate_callee (f := 28) rfl ?_); refine gL 5 Try.func28 #[.int .i64 a0_0, .int .i64 0, .int .i64 1] ?_; (with_reducible refine (spec_l1In.calls a0_0 0 1 false _ A4.out).mono ?_); rintro e w' ⟨rfl, ⟨nd, rfl⟩⟩; refine ⟨_, rfl, ?_⟩))
  go_meet
  case rel => exact ⟨_, (false), rs, H', ⟨by first | omega | exact Nat.le_refl _⟩, ⟨bl BK119.out⟩, ⟨by exact bb HB.out⟩⟩
 case rest =>
  clear HC2;try clear c2
  try clear p2
  try clear c5
  try clear c7
  try clear hcz10_0
  try clear hcz10_1
  try clear hcz10_2
  try clear hcz10_3
  try clear hcz11_0
  try clear hcz11_1
  try clear hcz11_2
  try clear hcz11_3
  try clear hcz9_0
  try clear hcz9_1
  try clear hcz9_2
  try clear hcz9_3
  try clear hfz10_0
  try clear hfz10_1
  try clear hfz10_2
  try clear hfz10_3
  try clear hfz11_0
  try clear hfz11_1
  try clear hfz11_2
  try clear hfz11_3
  try clear hfz9_0
  try clear hfz9_1
  try clear hfz9_2
  try clear hfz9_3
  obtain ⟨kq, x2_1, rfl, HA, HJ1, BK119, HB⟩ := hcut
  cases kq with
  | zero => exact absurd HA.out (by simp [spec_l9Ok.j0])
  | succ kj1 =>
   have H := HA.out;clear HA;simp only [spec_l9Ok.j0] at H;obtain rfl := Option.some.inj H;go_wp2;go_ret;exact ⟨by first | rfl | (simp [errW_none, errW_some] <;> rfl) | (simp [*, errW_none, errW_some] <;> rfl), by exact bb HB.out⟩
def spec_l9Bytes.l0 : Nat → List (S38) → Int → Int → Int → Option (Int)
 | 0, _, _, _, _ => none
 | k + 1, x0, x1, x5, x6 => if x6 < (x0.length : Int) then (if 0 ≤ x6 then (if ((rd_T38 x0 x6).f0) = x1 then (spec_l9Bytes.l0 k x0 x1 (wrap64 (x5 + (((rd_T38 x0 x6).f3).size : Int))) (wrap64 (x6 + 1))) else (spec_l9Bytes.l0 k x0 x1 x5 (wrap64 (x6 + 1)))) else (none)) else (some x5)
def spec_l9Bytes.f (k : Nat) (l0 : List (S38)) (a1 : Int) : Option (Int) := spec_l9Bytes.l0 k l0 a1 0 0
theorem spec_l9Bytes.mono_l : ∀ k, (∀ y0 y1 y2 y3, LeO (spec_l9Bytes.l0 k y0 y1 y2 y3) (spec_l9Bytes.l0 (k + 1) y0 y1 y2 y3))
 | 0 => fun _ _ _ _ r h => by simp [spec_l9Bytes.l0] at h
 | k + 1 => by
  have ih0 := spec_l9Bytes.mono_l k;intro y0 y1 y2 y3;unfold spec_l9Bytes.l0
  repeat' first
  | (with_reducible exact ih0 _ _ _ _)
  | (with_reducible exact LeO.refl _)
  | (with_reducible exact LeO.none _)
  | (with_reducible refine LeO.ite ?_ ?_)
  | (with_reducible refine LeO.bind ?_ (fun _ => ?_))
  | exact LeO.none _
  | refine LeO.ite ?_ ?_
  | refine LeO.bind ?_ (fun _ => ?_)
theorem spec_l9Bytes.mono : ∀ a0 a1 k, LeO (spec_l9Bytes.f k a0 a1) (spec_l9Bytes.f (k + 1) a0 a1) := by
 intro a0 a1 k;have ih0 := spec_l9Bytes.mono_l k;unfold spec_l9Bytes.f
 repeat' first
   | (with_reducible exact ih0 _ _ _ _)
   | (with_reducible exact LeO.refl _)
   | (with_reducible exact LeO.none _)
   | (with_reducible refine LeO.ite ?_ ?_)
   | (with_reducible refine LeO.bind ?_ (fun _ => ?_))
   | exact LeO.none _
   | refine LeO.ite ?_ ?_
   | refine LeO.bind ?_ (fun _ => ?_)
set_option maxHeartbeats 8000000 in
set_option maxRecDepth 100000 in
theorem spec_l9Bytes.calls (k : Nat) (A0 : Option Addr) (c0 : Nat) (l0 : List (S38)) (a1 : Int) (r : Int) (w : World) (hr0 : Kd.C k38 w A0 l0.length l0) (hc0 : l0.length ≤ c0) (h : spec_l9Bytes.f k l0 a1 = some r) :
  Calls Try.prog 26 #[.slice A0 l0.length c0, .int .i64 a1] w fun e w' => e = .returned (.int .i64 r) ∧ Drawn0 w w' := by
 have HR0 := Aside0.mk hr0;have HC0 := Aside0.mk hc0;clear hr0 hc0;have H : (spec_l9Bytes.l0 k l0 a1 0 0) = some r := h;clear h;have H' := Aside0.mk H;clear H
 go_enter Try.func26, Try.ntmps26
 go_wp2
 go_loopg [5, 6] k (fun kq v5 v6 w' => ∃ (x5_1 : Int) (x6_1 : Int), v5 = .int .i64 x5_1 ∧ v6 = .int .i64 x6_1 ∧ Aside0 (spec_l9Bytes.l0 kq l0 a1 x5_1 x6_1 = some r) ∧ Aside0 (kq ≤ k) ∧ Drawn0 w w')
 case atStart => exact ⟨(0), (0), rs, rs, H', ⟨Nat.le_refl _⟩, by repeat (first | exact Drawn0.refl _ | apply Drawn0.step)⟩
 case round =>
  clear H';try clear c2
  try clear p2
  obtain ⟨x5_1, x6_1, rfl, rfl, HA, HK1, ⟨m1, rfl⟩⟩ := hrel
  cases gk with
  | zero => exact absurd HA.out (by simp [spec_l9Bytes.l0])
  | succ k1 =>
   have H := HA.out;clear HA;simp only [spec_l9Bytes.l0] at H
   by_cases c3 : x6_1 < (l0.length : Int)
   ·rw [if_pos c3] at H;have c3b0 : decide (x6_1 < (l0.length : Int)) = true := decide_eq_true c3;clear c3
    by_cases c4 : 0 ≤ x6_1
    ·rw [if_pos c4] at H;have c4b0 : decide (0 ≤ x6_1) = true := decide_eq_true c4;clear c4
     by_cases c5 : ((rd_T38 l0 x6_1).f0) = a1
     ·rw [if_pos c5] at H;have c5b0 : (((rd_T38 l0 x6_1).f0) == a1) = true := beq_iff_eq.mpr c5;have c5b1 : (((rd_T38 l0 x6_1).f0) != a1) = false := bne_eq_false_iff_eq.mpr c5;clear c5;have H' := Aside0.mk H;clear H;have p123 : 0 ≤ (x6_1 : Int) := of_decide_eq_true am;have q123 : x6_1 < (l0.length : Int) := of_decide_eq_true am;obtain ⟨ad123, e123, hx123_0, hx123_1, hx123_2, hx123_3⟩ := at_T38 HR0.out x6_1 p123 q123;cases e123;replace p123 := eq_true p123;replace q123 := eq_true q123;have p124 : 0 ≤ (x6_1 : Int) := of_decide_eq_true am;have q124 : x6_1 < (l0.length : Int) := of_decide_eq_true am;obtain ⟨ad124, e124, hx124_0, hx124_1, hx124_2, hx124_3⟩ := at_T38 HR0.out x6_1 p124 q124;obtain rfl : ad123 = ad124 := (by injection e124);replace p124 := eq_true p124;replace q124 := eq_true q124;go_wp2
      go_roundg k1
      case measure => have := HK1.out; omega
      case rel => exact ⟨(wrap64 (x5_1 + (((rd_T38 l0 x6_1).f3).size : Int))), (wrap64 (x6_1 + 1)), rs, rs, H', ⟨by have := HK1.out; omega⟩, by repeat (first | exact Drawn0.refl _ | apply Drawn0.step)⟩
     rw [if_neg c5] at H;have c5b0 : (((rd_T38 l0 x6_1).f0) == a1) = false := beq_eq_false_iff_ne.mpr c5;have c5b1 : (((rd_T38 l0 x6_1).f0) != a1) = true := bne_iff_ne.mpr c5;have H' := Aside0.mk H;clear H;have p123 : 0 ≤ (x6_1 : Int) := of_decide_eq_true am;have q123 : x6_1 < (l0.length : Int) := of_decide_eq_true am;obtain ⟨ad123, e123, hx123_0, hx123_1, hx123_2, hx123_3⟩ := at_T38 HR0.out x6_1 p123 q123;cases e123;replace p123 := eq_true p123;replace q123 := eq_true q123;go_wp2
     go_roundg k1
     case measure => have := HK1.out; omega
     case rel => exact ⟨(x5_1), (wrap64 (x6_1 + 1)), rs, rs, H', ⟨by have := HK1.out; omega⟩, by repeat (first | exact Drawn0.refl _ | apply Drawn0.step)⟩
    rw [if_neg c4] at H;exact absurd H (by simp)
   rw [if_neg c3] at H;have c3b0 : decide (x6_1 < (l0.length : Int)) = false := decide_eq_false c3;clear c3;obtain rfl := Option.some.inj H;go_wp2;go_ret;exact ⟨by first | rfl | (simp; done) | (simp [*]; done), by repeat (first | exact Drawn0.refl _ | apply Drawn0.step)⟩
def spec_l9Less.j0 : Nat → Bool → Option (Bool)
 | 0, _ => none
 | k + 1, x6 => some x6
def spec_l9Less.f (k : Nat) (a0_0 : Int) (a0_1 : ByteArray) (a0_2 : Int) (a0_3 : ByteArray) (a1 : Int) (a2 : ByteArray) : Option (Bool) := if a0_0 < a1 then (spec_l9Less.j0 k true) else (if a0_0 = a1 then (spec_l9Less.j0 k (Op.bytesLess a0_1.toList a2.toList)) else (spec_l9Less.j0 k false))
theorem spec_l9Less.mono_l : ∀ k, (∀ y0, LeO (spec_l9Less.j0 k y0) (spec_l9Less.j0 (k + 1) y0))
 | 0 => fun _ r h => by simp [spec_l9Less.j0] at h
 | k + 1 => by
  have ih0 := spec_l9Less.mono_l k;intro y0;unfold spec_l9Less.j0
  repeat' first
  | (with_reducible exact ih0 _)
  | (with_reducible exact LeO.refl _)
  | (with_reducible exact LeO.none _)
  | (with_reducible refine LeO.ite ?_ ?_)
  | (with_reducible refine LeO.bind ?_ (fun _ => ?_))
  | exact LeO.none _
  | refine LeO.ite ?_ ?_
  | refine LeO.bind ?_ (fun _ => ?_)
theorem spec_l9Less.mono : ∀ a0 a1 a2 a3 a4 a5 k, LeO (spec_l9Less.f k a0 a1 a2 a3 a4 a5) (spec_l9Less.f (k + 1) a0 a1 a2 a3 a4 a5) := by
 intro a0 a1 a2 a3 a4 a5 k;have ih0 := spec_l9Less.mono_l k;unfold spec_l9Less.f
 repeat' first
   | (with_reducible exact ih0 _)
   | (with_reducible exact LeO.refl _)
   | (with_reducible exact LeO.none _)
   | (with_reducible refine LeO.ite ?_ ?_)
   | (with_reducible refine LeO.bind ?_ (fun _ => ?_))
   | exact LeO.none _
   | refine LeO.ite ?_ ?_
   | refine LeO.bind ?_ (fun _ => ?_)
set_option maxHeartbeats 8000000 in
set_option maxRecDepth 100000 in
theorem spec_l9Less.calls (k : Nat) (a0_0 : Int) (a0_1 : ByteArray) (a0_2 : Int) (a0_3 : ByteArray) (a1 : Int) (a2 : ByteArray) (r : Bool) (w : World) (h : spec_l9Less.f k a0_0 a0_1 a0_2 a0_3 a1 a2 = some r) :
  Calls Try.prog 29 #[.agg #[.int .i64 a0_0, .string a0_1, .int .i64 a0_2, .string a0_3], .int .i64 a1, .string a2] w fun e w' => e = .returned (.bool r) ∧ Below w.heap.size w w' := by
 have hu38 := Try.underlying38;have HB := Aside0.mk (Below.refl w.heap.size w);have H : (if a0_0 < a1 then (spec_l9Less.j0 k true) else (if a0_0 = a1 then (spec_l9Less.j0 k (Op.bytesLess a0_1.toList a2.toList)) else (spec_l9Less.j0 k false))) = some r := h;clear h;have HC4 := Aside0.mk H;clear H
 go_enter Try.func29, Try.ntmps29
 go_upto_region 1 with (first | ((with_reducible refine gate_dst (N := 3) rfl ?_); refine bv 3 #[.int .i64 a0_0, .string a0_1, .int .i64 a0_2, .string a0_3] 38 ?_; intro gb125 hg w5 hbox hb; have BK125 := Aside0.mk (hbox); have GW125 := gw HB hg; have GE125 := gw HB hg; replace HB := hbb HB hb; clear hb hbox hg))
 (try simp only [Act.put, sB, s0, s1])
 go_cut [6] (fun v6 wc => ∃ (kq : Nat) (x6_3 : Bool), v6 = .bool x6_3 ∧ Aside0 (spec_l9Less.j0 kq x6_3 = some r) ∧ Aside0 (kq ≤ k) ∧ Aside0 (wc.heap[gb125]? = some (.cells #[.int .i64 a0_0, .string a0_1, .int .i64 a0_2, .string a0_3] 38 (0, 0))) ∧ Aside0 (Below w.heap.size w wc))
 case first =>
  have H := HC4.out;clear HC4
  by_cases c6 : a0_0 < a1
  ·rw [if_pos c6] at H;have c6b0 : decide (a0_0 < a1) = true := decide_eq_true c6;clear c6;(first | rw [c6b0] | (simp only [i64_w, i32_w]; rw [c6b0]) | skip);have H' := Aside0.mk H;clear H;obtain ⟨hcz7_0, hcz7_1, hcz7_2, hcz7_3, hfz7_0, hfz7_1, hfz7_2, hfz7_3⟩ := c4 BK125;go_wp2
   go_meet
   case rel => exact ⟨_, (true), rs, H', ⟨by first | omega | exact Nat.le_refl _⟩, ⟨bl BK125.out⟩, ⟨by exact bb HB.out⟩⟩
  rw [if_neg c6] at H;have c6b0 : decide (a0_0 < a1) = false := decide_eq_false c6;clear c6;(first | rw [c6b0] | (simp only [i64_w, i32_w]; rw [c6b0]) | skip)
  by_cases c8 : a0_0 = a1
  ·rw [if_pos c8] at H;have c8b0 : (a0_0 == a1) = true := beq_iff_eq.mpr c8;have c8b1 : (a0_0 != a1) = false := bne_eq_false_iff_eq.mpr c8;clear c8;have H' := Aside0.mk H;clear H;obtain ⟨hcz9_0, hcz9_1, hcz9_2, hcz9_3, hfz9_0, hfz9_1, hfz9_2, hfz9_3⟩ := c4 BK125;go_wp2
   go_meet
   case rel => exact ⟨_, ((Op.bytesLess a0_1.toList a2.toList)), rs, H', ⟨by first | omega | exact Nat.le_refl _⟩, ⟨bl BK125.out⟩, ⟨by exact bb HB.out⟩⟩
  rw [if_neg c8] at H;have c8b0 : (a0_0 == a1) = false := beq_eq_false_iff_ne.mpr c8;have c8b1 : (a0_0 != a1) = true := bne_iff_ne.mpr c8;have H' := Aside0.mk H;clear H;obtain ⟨hcz10_0, hcz10_1, hcz10_2, hcz10_3, hfz10_0, hfz10_1, hfz10_2, hfz10_3⟩ := c4 BK125;go_wp2
  go_meet
  case rel => exact ⟨_, (false), rs, H', ⟨by first | omega | exact Nat.le_refl _⟩, ⟨bl BK125.out⟩, ⟨by exact bb HB.out⟩⟩
 case rest =>
  clear HC4;try clear c2
  try clear p2
  try clear c6
  try clear c6b0
  try clear c8
  try clear c8b0
  try clear c8b1
  try clear hcz10_0
  try clear hcz10_1
  try clear hcz10_2
  try clear hcz10_3
  try clear hcz7_0
  try clear hcz7_1
  try clear hcz7_2
  try clear hcz7_3
  try clear hcz9_0
  try clear hcz9_1
  try clear hcz9_2
  try clear hcz9_3
  try clear hfz10_0
  try clear hfz10_1
  try clear hfz10_2
  try clear hfz10_3
  try clear hfz7_0
  try clear hfz7_1
  try clear hfz7_2
  try clear hfz7_3
  try clear hfz9_0
  try clear hfz9_1
  try clear hfz9_2
  try clear hfz9_3
  obtain ⟨kq, x6_3, rfl, HA, HJ3, BK125, HB⟩ := hcut
  cases kq with
  | zero => exact absurd HA.out (by simp [spec_l9Less.j0])
  | succ kj3 =>
   have H := HA.out;clear HA;simp only [spec_l9Less.j0] at H;obtain rfl := Option.some.inj H;go_wp2;go_ret;exact ⟨by first | rfl | (simp [errW_none, errW_some] <;> rfl) | (simp [*, errW_none, errW_some] <;> rfl), by exact bb HB.out⟩
mutual
def spec_CatOk.j0 : Nat → Bool → Int → List (S38) → Option (Bool)
 | 0, _, _, _ => none
 | k + 1, x16, x127000, x127001 => if x16 = true then (some false) else (spec_CatOk.l0 k 0 x127000 x127001)
def spec_CatOk.l0 : Nat → Int → Int → List (S38) → Option (Bool)
 | 0, _, _, _ => none
 | k + 1, x3, x127000, x127001 => if x3 < (x127001.length : Int) then (if 0 ≤ x3 then ((spec_l9Ok.f k ((rd_T38 x127001 x3).f0) ((rd_T38 x127001 x3).f1) ((rd_T38 x127001 x3).f2) ((rd_T38 x127001 x3).f3)).bind fun t130 => (if t130 = true then ((spec_l1In.f ((rd_T38 x127001 x3).f2) 1 x127000).bind fun t131 => (if t131 = true then (if x3 > 0 then (if 0 ≤ (wrap64 (x3 - 1)) then (if (wrap64 (x3 - 1)) < (x127001.length : Int) then ((spec_l9Less.f k ((rd_T38 x127001 (wrap64 (x3 - 1))).f0) ((rd_T38 x127001 (wrap64 (x3 - 1))).f1) ((rd_T38 x127001 (wrap64 (x3 - 1))).f2) ((rd_T38 x127001 (wrap64 (x3 - 1))).f3) ((rd_T38 x127001 x3).f0) ((rd_T38 x127001 x3).f1)).bind fun t133 => (spec_CatOk.j2 k x3 (!t133) x127000 x127001 ((rd_T38 x127001 x3).f0) ((rd_T38 x127001 x3).f1) ((rd_T38 x127001 x3).f2) ((rd_T38 x127001 x3).f3))) else (none)) else (none)) else (spec_CatOk.j2 k x3 false x127000 x127001 ((rd_T38 x127001 x3).f0) ((rd_T38 x127001 x3).f1) ((rd_T38 x127001 x3).f2) ((rd_T38 x127001 x3).f3))) else (spec_CatOk.j2 k x3 true x127000 x127001 ((rd_T38 x127001 x3).f0) ((rd_T38 x127001 x3).f1) ((rd_T38 x127001 x3).f2) ((rd_T38 x127001 x3).f3)))) else (spec_CatOk.j2 k x3 true x127000 x127001 ((rd_T38 x127001 x3).f0) ((rd_T38 x127001 x3).f1) ((rd_T38 x127001 x3).f2) ((rd_T38 x127001 x3).f3)))) else (none)) else (spec_CatOk.l2 k 0 x127000 x127001)
def spec_CatOk.j2 : Nat → Int → Bool → Int → List (S38) → Int → ByteArray → Int → ByteArray → Option (Bool)
 | 0, _, _, _, _, _, _, _, _ => none
 | k + 1, x3, x57, x127000, x127001, x130000, x130001, x130002, x130003 => if x57 = true then (some false) else (spec_CatOk.l1 k x3 0 x127000 x127001 x130000 x130001 x130002 x130003)
def spec_CatOk.l1 : Nat → Int → Int → Int → List (S38) → Int → ByteArray → Int → ByteArray → Option (Bool)
 | 0, _, _, _, _, _, _, _, _ => none
 | k + 1, x3, x5, x127000, x127001, x130000, x130001, x130002, x130003 => if x5 < x3 then (if 0 ≤ x5 then (if x5 < (x127001.length : Int) then (if ((rd_T38 x127001 x5).f2) = x130002 then (some false) else (spec_CatOk.l1 k x3 (wrap64 (x5 + 1)) x127000 x127001 x130000 x130001 x130002 x130003)) else (none)) else (none)) else (spec_CatOk.l0 k (wrap64 (x3 + 1)) x127000 x127001)
def spec_CatOk.l2 : Nat → Int → Int → List (S38) → Option (Bool)
 | 0, _, _, _ => none
 | k + 1, x6, x127000, x127001 => if x6 < 2 then ((spec_l9Bytes.f k x127001 x6).bind fun t135 => (if t135 > 500 then (some false) else (spec_CatOk.l2 k (wrap64 (x6 + 1)) x127000 x127001))) else (some true)
end
def spec_CatOk.f (k : Nat) (a0_0 : Int) (l0_1 : List (S38)) : Option (Bool) := (spec_l1In.f a0_0 0 99999).bind fun t127 => (if t127 = true then (spec_CatOk.j0 k (decide ((l0_1.length : Int) > 8)) a0_0 l0_1) else (spec_CatOk.j0 k true a0_0 l0_1))
theorem spec_CatOk.mono_l : ∀ k, (∀ y0 y1 y2, LeO (spec_CatOk.j0 k y0 y1 y2) (spec_CatOk.j0 (k + 1) y0 y1 y2)) ∧ (∀ y0 y1 y2, LeO (spec_CatOk.l0 k y0 y1 y2) (spec_CatOk.l0 (k + 1) y0 y1 y2)) ∧ (∀ y0 y1 y2 y3 y4 y5 y6 y7, LeO (spec_CatOk.j2 k y0 y1 y2 y3 y4 y5 y6 y7) (spec_CatOk.j2 (k + 1) y0 y1 y2 y3 y4 y5 y6 y7)) ∧ (∀ y0 y1 y2 y3 y4 y5 y6 y7, LeO (spec_CatOk.l1 k y0 y1 y2 y3 y4 y5 y6 y7) (spec_CatOk.l1 (k + 1) y0 y1 y2 y3 y4 y5 y6 y7)) ∧ (∀ y0 y1 y2, LeO (spec_CatOk.l2 k y0 y1 y2) (spec_CatOk.l2 (k + 1) y0 y1 y2))
 | 0 => ⟨fun _ _ _ r h => by simp [spec_CatOk.j0] at h, fun _ _ _ r h => by simp [spec_CatOk.l0] at h, fun _ _ _ _ _ _ _ _ r h => by simp [spec_CatOk.j2] at h, fun _ _ _ _ _ _ _ _ r h => by simp [spec_CatOk.l1] at h, fun _ _ _ r h => by simp [spec_CatOk.l2] at h⟩
 | k + 1 => by
  obtain ⟨ih0, ih1, ih2, ih3, ih4⟩ := spec_CatOk.mono_l k;refine ⟨?_, ?_, ?_, ?_, ?_⟩;intro y0 y1 y2; unfold spec_CatOk.j0; rotate_left
  intro y0 y1 y2; unfold spec_CatOk.l0; rotate_left
  intro y0 y1 y2 y3 y4 y5 y6 y7; unfold spec_CatOk.j2; rotate_left
  intro y0 y1 y2 y3 y4 y5 y6 y7; unfold spec_CatOk.l1; rotate_left
  intro y0 y1 y2; unfold spec_CatOk.l2; rotate_left
  all_goals repeat' first
   | (with_reducible exact ih0 _ _ _)
   | (with_reducible exact ih1 _ _ _)
   | (with_reducible exact ih2 _ _ _ _ _ _ _ _)
   | (with_reducible exact ih3 _ _ _ _ _ _ _ _)
   | (with_reducible exact ih4 _ _ _)
   | (with_reducible exact spec_l9Bytes.mono _ _ _)
   | (with_reducible exact spec_l9Less.mono _ _ _ _ _ _ _)
   | (with_reducible exact spec_l9Ok.mono _ _ _ _ _)
   | (with_reducible exact LeO.refl _)
   | (with_reducible exact LeO.none _)
   | (with_reducible refine LeO.ite ?_ ?_)
   | (with_reducible refine LeO.bind ?_ (fun _ => ?_))
   | exact LeO.none _
   | refine LeO.ite ?_ ?_
   | refine LeO.bind ?_ (fun _ => ?_)
theorem spec_CatOk.mono : ∀ a0 a1 k, LeO (spec_CatOk.f k a0 a1) (spec_CatOk.f (k + 1) a0 a1) := by
 intro a0 a1 k;obtain ⟨ih0, ih1, ih2, ih3, ih4⟩ := spec_CatOk.mono_l k;unfold spec_CatOk.f
 repeat' first
   | (with_reducible exact ih0 _ _ _)
   | (with_reducible exact ih1 _ _ _)
   | (with_reducible exact ih2 _ _ _ _ _ _ _ _)
   | (with_reducible exact ih3 _ _ _ _ _ _ _ _)
   | (with_reducible exact ih4 _ _ _)
   | (with_reducible exact spec_l9Bytes.mono _ _ _)
   | (with_reducible exact spec_l9Less.mono _ _ _ _ _ _ _)
   | (with_reducible exact spec_l9Ok.mono _ _ _ _ _)
   | (with_reducible exact LeO.refl _)
   | (with_reducible exact LeO.none _)
   | (with_reducible refine LeO.ite ?_ ?_)
   | (with_reducible refine LeO.bind ?_ (fun _ => ?_))
   | exact LeO.none _
   | refine LeO.ite ?_ ?_
   | refine LeO.bind ?_ (fun _ => ?_)
def spec_CatOk.T7 : Bool × List (List Nat × List Nat) := (true, [([], []), ([0], [0]), ([1], [1]), ([2, 1], [2]), ([3], [3]), ([4, 3], [3, 4]), ([3], [3]), ([6, 3], [3, 6]), ([5, 7, 3, 3], [3, 5, 7]), ([8, 3], [3, 8]), ([3, 9], [3, 9]), ([10, 8], [10]), ([11], [11]), ([12, 11], [11, 12]), ([13, 11, 11], [11, 13]), ([14], [14]), ([15, 14], [14, 15]), ([14], [14]), ([17, 14], [14, 17]), ([16, 18, 14], [14, 16, 18]), ([19, 14], [14, 19]), ([14], [14]), ([21, 14], [14, 21]), ([14], [14]), ([23, 14], [14, 23]), ([20, 22, 24, 14, 14], [14, 20, 22, 24]), ([25, 14], [14, 25]), ([14, 26, 11], [11, 14, 26]), ([11, 27], [11, 27])])
def spec_CatOk.B7 : List Nat := [0, 1, 3, 7, 15, 31, 15, 79, 255, 511, 1023, 2047, 4095, 8191, 16383, 32767, 65535, 32767, 163839, 524287, 1048575, 32767, 2129919, 32767, 8421375, 33554431, 67108863, 134217727, 268435455]
theorem spec_CatOk.tab7 : rtab .any (opsOf Try.f9 7) = spec_CatOk.T7 := by kernel_rfl
theorem spec_CatOk.bits7 : waitsOk spec_CatOk.T7.2 spec_CatOk.B7 = true := by kernel_rfl
def spec_CatOk.T12 : Bool × List (List Nat × List Nat) := (true, [([], []), ([0], [0]), ([], []), ([1, 2], [1, 2]), ([3], [3]), ([4], [4]), ([], []), ([6], [6]), ([5, 7], [5, 7])])
def spec_CatOk.B12 : List Nat := [0, 1, 0, 7, 15, 31, 0, 64, 255]
theorem spec_CatOk.tab12 : rtab .any (opsOf Try.f9 12) = spec_CatOk.T12 := by kernel_rfl
theorem spec_CatOk.bits12 : waitsOk spec_CatOk.T12.2 spec_CatOk.B12 = true := by kernel_rfl
set_option maxHeartbeats 8000000 in
set_option maxRecDepth 100000 in
theorem spec_CatOk.calls (k : Nat) (a0_0 : Int) (A0_1 : Option Addr) (c0_1 : Nat) (l0_1 : List (S38)) (r : Bool) (w : World) (hr0_1 : Kd.C k38 w A0_1 l0_1.length l0_1) (hc0_1 : l0_1.length ≤ c0_1) (h : spec_CatOk.f k a0_0 l0_1 = some r) :
  Calls Try.prog 9 #[.agg #[.int .i64 a0_0, .slice A0_1 l0_1.length c0_1]] w fun e w' => e = .returned (.bool r) ∧ Below w.heap.size w w' := by
 have hu25 := Try.underlying25;have hu38 := Try.underlying38;have HR0_1 := Aside0.mk hr0_1;have HC0_1 := Aside0.mk hc0_1;clear hr0_1 hc0_1;have HB := Aside0.mk (Below.refl w.heap.size w);have H : ((spec_l1In.f a0_0 0 99999).bind fun t127 => (if t127 = true then (spec_CatOk.j0 k (decide ((l0_1.length : Int) > 8)) a0_0 l0_1) else (spec_CatOk.j0 k true a0_0 l0_1))) = some r := h;clear h;have HC2 := Aside0.mk H;clear H
 go_enter Try.func9, Try.ntmps9
 go_upto_region 1 with (first | ((with_reducible refine gate_dst (N := 1) rfl ?_); (try (refine gate_guard (by rfl) ?_; dsimp only)); refine bv 1 #[.int .i64 a0_0, .slice A0_1 l0_1.length c0_1] 25 ?_; intro gb126 hg w3 hbox hb; have BK126 := Aside0.mk (hbox); have GW126 := gw HB hg; have GE126 := gw HB hg; replace HB := hbb HB hb; clear hb hbox hg))
 (try simp only [Act.put, sB, s0, s1])
 go_cut [16] (fun v16 wc => ∃ (kq : Nat) (x16_1 : Bool), v16 = .bool x16_1 ∧ Aside0 (spec_CatOk.j0 kq x16_1 a0_0 l0_1 = some r) ∧ Aside0 (kq ≤ k) ∧ Aside0 (wc.heap[gb126]? = some (.cells #[.int .i64 a0_0, (.slice A0_1 l0_1.length c0_1)] 25 (0, 0))) ∧ Aside0 (Below w.heap.size w wc))
 case first =>
  have H := HC2.out;clear HC2;replace H := Option.bind_eq_some_iff.mp H;obtain ⟨t127, A40, H⟩ := H;have A4 := Aside0.mk A40;clear A40
  by_cases c5 : t127 = true
  ·subst c5;rw [if_pos rfl] at H;have H' := Aside0.mk H;clear H;obtain ⟨hcz6_0, hcz6_1, hfz6_0, hfz6_1⟩ := c2 BK126;go_wp2_with (first | ((with_reducible refine gate_callee (f := 28) rfl ?_); refine gL 9 Try.func28 #[.int .i64 a0_0, .int .i64 0, .int .i64 99999] ?_; (with_reducible refine (spec_l1In.calls a0_0 0 99999 true _ A4.out).mono ?_); rintro e w' ⟨rfl, ⟨nd, rfl⟩⟩; refine ⟨_, rfl, ?_⟩))
   go_meet
   case rel => exact ⟨_, (decide ((l0_1.length : Int) > 8)), rs, H', ⟨by first | omega | exact Nat.le_refl _⟩, ⟨bl BK126.out⟩, ⟨by exact bb HB.out⟩⟩
  replace c5 := Bool.eq_false_iff.mpr c5;subst c5;rw [if_neg (show ¬ (false = true) by decide)] at H;have H' := Aside0.mk H;clear H;obtain ⟨hcz7_0, hcz7_1, hfz7_0, hfz7_1⟩ := c2 BK126;go_wp2_with (first | ((with_reducible refine gate_callee (f := 28) rfl ?_); refine gL 9 Try.func28 #[.int .i64 a0_0, .int .i64 0, .int .i64 99999] ?_; (with_reducible refine (spec_l1In.calls a0_0 0 99999 false _ A4.out).mono ?_); rintro e w' ⟨rfl, ⟨nd, rfl⟩⟩; refine ⟨_, rfl, ?_⟩))
  go_meet
  case rel => exact ⟨_, (true), rs, H', ⟨by first | omega | exact Nat.le_refl _⟩, ⟨bl BK126.out⟩, ⟨by exact bb HB.out⟩⟩
 case rest =>
  clear HC2;try clear c2
  try clear p2
  try clear c5
  try clear hcz6_0
  try clear hcz6_1
  try clear hcz7_0
  try clear hcz7_1
  try clear hfz6_0
  try clear hfz6_1
  try clear hfz7_0
  try clear hfz7_1
  obtain ⟨kq, x16_1, rfl, HA, HJ1, BK126, HB⟩ := hcut
  cases kq with
  | zero => exact absurd HA.out (by simp [spec_CatOk.j0])
  | succ kj1 =>
   have H := HA.out;clear HA;simp only [spec_CatOk.j0] at H
   by_cases c8 : x16_1 = true
   ·subst c8;rw [if_pos rfl] at H;obtain rfl := Option.some.inj H;go_wp2;go_ret;exact ⟨by first | rfl | (simp [errW_none, errW_some] <;> rfl) | (simp [*, errW_none, errW_some] <;> rfl), by exact bb HB.out⟩
   ·replace c8 := Bool.eq_false_iff.mpr c8;subst c8;rw [if_neg (show ¬ (false = true) by decide)] at H;have H' := Aside0.mk H;clear H;go_wp2
    go_loopg [3] kj1 (fun kq v3 w' => ∃ (x3_2 : Int), v3 = .int .i64 x3_2 ∧ Aside0 (spec_CatOk.l0 kq x3_2 a0_0 l0_1 = some r) ∧ Aside0 (kq ≤ kj1) ∧ Aside0 (w'.heap[gb126]? = some (.cells #[.int .i64 a0_0, (.slice A0_1 l0_1.length c0_1)] 25 (0, 0))) ∧ Aside0 (Below w.heap.size w w'))
    case atStart => exact ⟨(0), rs, H', ⟨Nat.le_refl _⟩, ⟨bl BK126.out⟩, ⟨by exact bb HB.out⟩⟩
    case round =>
     clear H';(try clear c2);(try clear p2);(try clear c5);(try clear c8);(try clear hcz6_0);(try clear hcz6_1);(try clear hcz7_0);(try clear hcz7_1);(try clear hfz6_0);(try clear hfz6_1);(try clear hfz7_0);(try clear hfz7_1);(try clear p2);obtain ⟨x3_2, rfl, HA, HK2, BK126, HB⟩ := hrel
     cases gk with
     | zero => exact absurd HA.out (by simp [spec_CatOk.l0])
     | succ k2 =>
      have H := HA.out;clear HA;simp only [spec_CatOk.l0] at H
      by_cases c9 : x3_2 < (l0_1.length : Int)
      ·rw [if_pos c9] at H;have c9b0 : decide (x3_2 < (l0_1.length : Int)) = true := decide_eq_true c9;clear c9
       by_cases c10 : 0 ≤ x3_2
       ·rw [if_pos c10] at H;have c10b0 : decide (0 ≤ x3_2) = true := decide_eq_true c10;clear c10;have HC11 := Aside0.mk H;clear H;obtain ⟨hcz12_0, hcz12_1, hfz12_0, hfz12_1⟩ := c2 BK126;have p128 : 0 ≤ (x3_2 : Int) := of_decide_eq_true am;have q128 : x3_2 < (l0_1.length : Int) := of_decide_eq_true am;obtain ⟨ad128, e128, hx128_0, hx128_1, hx128_2, hx128_3⟩ := at_T38 HR0_1.out x3_2 p128 q128;cases e128;replace hx128_0 := (HB.out.cell (World.block_lt_of_cell? w _ hx128_0)).trans hx128_0;replace hx128_1 := (HB.out.cell (World.block_lt_of_cell? w _ hx128_1)).trans hx128_1;replace hx128_2 := (HB.out.cell (World.block_lt_of_cell? w _ hx128_2)).trans hx128_2;replace hx128_3 := (HB.out.cell (World.block_lt_of_cell? w _ hx128_3)).trans hx128_3;replace p128 := eq_true p128;replace q128 := eq_true q128
        go_upto_region 7 with (first | ((with_reducible refine gate_dst (N := 4) rfl ?_); (try (refine gate_guard (by rfl) ?_; dsimp only)); refine bv 4 #[.int .i64 0, .string (⟨#[]⟩ : ByteArray), .int .i64 0, .string (⟨#[]⟩ : ByteArray)] 38 ?_; intro gb129 hg w13 hbox hb; have BK129 := Aside0.mk (hbox); have GW129 := gw HB hg; have GE129 := gw HB hg; have NB126_129 := nl BK126 hg; have NB129_126 := ng BK126 hg; replace BK126 := kb BK126 hb; replace HB := hbb HB hb; clear hb hbox hg; have hnb14 := NB129_126.out; have hnc14 := NB126_129.out; obtain ⟨hcz15_0, hcz15_1, hcz15_2, hcz15_3, hfz15_0, hfz15_1, hfz15_2, hfz15_3⟩ := c4 BK129))
        (try simp only [Act.put, sB, s0, s1])
        go_cut [57] (fun v57 wc => ∃ (kq : Nat) (x57_10 : Bool), v57 = .bool x57_10 ∧ Aside0 (spec_CatOk.j2 kq x3_2 x57_10 a0_0 l0_1 ((rd_T38 l0_1 x3_2).f0) ((rd_T38 l0_1 x3_2).f1) ((rd_T38 l0_1 x3_2).f2) ((rd_T38 l0_1 x3_2).f3) = some r) ∧ Aside0 (kq ≤ k2) ∧ Aside0 (wc.heap[gb126]? = some (.cells #[.int .i64 a0_0, (.slice (some ad128) l0_1.length c0_1)] 25 (0, 0))) ∧ Aside0 (wc.heap[gb129]? = some (.cells #[.int .i64 ((rd_T38 l0_1 x3_2).f0), .string ((rd_T38 l0_1 x3_2).f1), .int .i64 ((rd_T38 l0_1 x3_2).f2), .string ((rd_T38 l0_1 x3_2).f3)] 38 (0, 0))) ∧ Aside0 (Below w.heap.size w wc))
        case first =>
         have H := HC11.out;clear HC11;replace H := Option.bind_eq_some_iff.mp H;obtain ⟨t130, A160, H⟩ := H;have A16 := Aside0.mk A160;clear A160
         by_cases c17 : t130 = true
         ·subst c17;rw [if_pos rfl] at H;replace H := Option.bind_eq_some_iff.mp H;obtain ⟨t131, A180, H⟩ := H;have A18 := Aside0.mk A180;clear A180
          by_cases c19 : t131 = true
          ·subst c19;rw [if_pos rfl] at H
           by_cases c20 : x3_2 > 0
           ·rw [if_pos c20] at H;have c20b0 : decide (0 < x3_2) = true := decide_eq_true c20;clear c20;(first | rw [c20b0] | (simp only [i64_w, i32_w]; rw [c20b0]) | skip);obtain ⟨ji21, hji21⟩ : ∃ j_ : Int, (wrap64 (x3_2 - 1)) = j_ := ⟨_, rfl⟩;replace H : (if 0 ≤ (ji21) then (if (ji21) < (l0_1.length : Int) then ((spec_l9Less.f k2 ((rd_T38 l0_1 (ji21)).f0) ((rd_T38 l0_1 (ji21)).f1) ((rd_T38 l0_1 (ji21)).f2) ((rd_T38 l0_1 (ji21)).f3) ((rd_T38 l0_1 x3_2).f0) ((rd_T38 l0_1 x3_2).f1)).bind fun t133 => (spec_CatOk.j2 k2 x3_2 (!t133) a0_0 l0_1 ((rd_T38 l0_1 x3_2).f0) ((rd_T38 l0_1 x3_2).f1) ((rd_T38 l0_1 x3_2).f2) ((rd_T38 l0_1 x3_2).f3))) else (none)) else (none)) = some r := by first | (rw [hji21] at H; exact H) | (simp only [hji21] at H ⊢; exact H)
            (try rw [hji21] at A16);(try rw [hji21] at A18);have hji21w : (IntKind.i64.wrap (x3_2 - 1)) = ji21 := (i64_w _).trans hji21
            by_cases c22 : 0 ≤ (ji21)
            ·rw [if_pos c22] at H;have c22b0 : decide (0 ≤ (ji21)) = true := decide_eq_true c22;clear c22
             by_cases c23 : (ji21) < (l0_1.length : Int)
             ·rw [if_pos c23] at H;have c23b0 : decide ((ji21) < (l0_1.length : Int)) = true := decide_eq_true c23;clear c23;replace H := Option.bind_eq_some_iff.mp H;obtain ⟨t133, A240, H⟩ := H;have A24 := Aside0.mk A240;clear A240;have H' := Aside0.mk H;clear H
              try go_wp2
              obtain ⟨w25, hw_⟩ : ∃ W_, ((((w13.setCell ⟨gb129, 0, none⟩ (.int .i64 ((rd_T38 l0_1 x3_2).f0))).setCell ⟨gb129, 1, none⟩ (.string ((rd_T38 l0_1 x3_2).f1))).setCell ⟨gb129, 2, none⟩ (.int .i64 ((rd_T38 l0_1 x3_2).f2))).setCell ⟨gb129, 3, none⟩ (.string ((rd_T38 l0_1 x3_2).f3))) = W_ := ⟨_, rfl⟩;have hi_ : Lax gb129 w13 w25 := (by rw [← hw_]; infer_instance);have n0_ : Aside0 (w25.heap[gb126]? = some (.cells #[.int .i64 a0_0, .slice (some ad128) l0_1.length c0_1] 25 (0, 0))) := ⟨bx (a := gb129) BK126.out NB126_129.out⟩;have n1_ : Aside0 (w25.heap[gb129]? = some (.cells #[.int .i64 ((rd_T38 l0_1 x3_2).f0), .string ((rd_T38 l0_1 x3_2).f1), .int .i64 ((rd_T38 l0_1 x3_2).f2), .string ((rd_T38 l0_1 x3_2).f3)] 38 (0, 0))) := ⟨by rw [← hw_]; exact (bp BK129.out (by rfl))⟩;have n2_ : Aside0 (Below w.heap.size w w25) := ⟨by exact bbx (a := gb129) HB.out GE129.out⟩;(try clear BK126);(try clear BK129);(try clear HB);clear hi_;(try rw [hw_]);clear hw_;have BK126 := n0_;have BK129 := n1_;have HB := n2_;clear n0_ n1_ n2_;replace BK126 := Aside0.mk (blk_drew BK126.out);replace BK129 := Aside0.mk (blk_drew BK129.out);replace HB := Aside0.mk (below_drew1 HB.out);have p132 : 0 ≤ ((ji21) : Int) := of_decide_eq_true am;have q132 : (ji21) < (l0_1.length : Int) := of_decide_eq_true am;obtain ⟨ad132, e132, hx132_0, hx132_1, hx132_2, hx132_3⟩ := at_T38 HR0_1.out (ji21) p132 q132;have hw132_3 := hx132_3;have hw132_2 := hx132_2;have hw132_1 := hx132_1;have hw132_0 := hx132_0;obtain rfl : ad128 = ad132 := (by injection e132);replace hx132_0 := (HB.out.cell (World.block_lt_of_cell? w _ hx132_0)).trans hx132_0;replace hx132_1 := (HB.out.cell (World.block_lt_of_cell? w _ hx132_1)).trans hx132_1;replace hx132_2 := (HB.out.cell (World.block_lt_of_cell? w _ hx132_2)).trans hx132_2;replace hx132_3 := (HB.out.cell (World.block_lt_of_cell? w _ hx132_3)).trans hx132_3;replace p132 := eq_true p132;replace q132 := eq_true q132;refine start_ (n := 29) (S := fun w' => w'.cell? ⟨gb129, 0, none⟩ = some (.int .i64 ((rd_T38 l0_1 x3_2).f0)) ∧ w'.cell? ⟨gb129, 1, none⟩ = some (.string ((rd_T38 l0_1 x3_2).f1)) ∧ w'.cell? ⟨gb129, 2, none⟩ = some (.int .i64 ((rd_T38 l0_1 x3_2).f2)) ∧ w'.cell? ⟨gb129, 3, none⟩ = some (.string ((rd_T38 l0_1 x3_2).f3)) ∧ w'.cell? ⟨gb126, 0, none⟩ = some (.int .i64 a0_0) ∧ w'.cell? ⟨gb126, 1, none⟩ = some (.slice (some ad128) l0_1.length c0_1) ∧ w'.cell? (ad128.add (((ji21)).toNat * 4)) = some (.int .i64 ((rd_T38 l0_1 (ji21)).f0)) ∧ w'.cell? ⟨(ad128.add (((ji21)).toNat * 4)).block, (ad128.add (((ji21)).toNat * 4)).off + 1, none⟩ = some (.string ((rd_T38 l0_1 (ji21)).f1)) ∧ w'.cell? ⟨(ad128.add (((ji21)).toNat * 4)).block, (ad128.add (((ji21)).toNat * 4)).off + 2, none⟩ = some (.int .i64 ((rd_T38 l0_1 (ji21)).f2)) ∧ w'.cell? ⟨(ad128.add (((ji21)).toNat * 4)).block, (ad128.add (((ji21)).toNat * 4)).off + 3, none⟩ = some (.string ((rd_T38 l0_1 (ji21)).f3))) (ds := []) (bm 29 0) (by kernel_rfl) rfl rfl ⟨bc BK129 0, bc BK129 1, bc BK129 2, bc BK129 3, bc BK126 0, bc BK126 1, ((HB.out.cell (World.block_lt_of_cell? w _ hw132_0)).trans hw132_0), ((HB.out.cell (World.block_lt_of_cell? w _ hw132_1)).trans hw132_1), ((HB.out.cell (World.block_lt_of_cell? w _ hw132_2)).trans hw132_2), ((HB.out.cell (World.block_lt_of_cell? w _ hw132_3)).trans hw132_3)⟩ (fun hHeld => ?_); refine with_tabW spec_CatOk.tab7 spec_CatOk.bits7 (fun HT_ HW_ => ?_)
              generalize w25.drew = w26 at BK126 BK129 HB hx132_0 hx132_1 hx132_2 hx132_3 hHeld ⊢;refine tk HT_ HW_ 0 29 (bm 29 1) hHeld ?_;refine on HT_ 1 30 (bm 29 3) (fun K hK => ?_);refine gR Try.func23 #[.agg #[.int .i64 ((rd_T38 l0_1 x3_2).f0), .string ((rd_T38 l0_1 x3_2).f1), .int .i64 ((rd_T38 l0_1 x3_2).f2), .string ((rd_T38 l0_1 x3_2).f3)]] ?_;(with_reducible refine (spec_l9Ok.calls k2 ((rd_T38 l0_1 x3_2).f0) ((rd_T38 l0_1 x3_2).f1) ((rd_T38 l0_1 x3_2).f2) ((rd_T38 l0_1 x3_2).f3) true _ A16.out).mono ?_);rintro e w27 ⟨rfl, hb⟩;refine ⟨_, rfl, ?_⟩;replace BK126 := kb BK126 hb;replace BK129 := kb BK129 hb;replace HB := hbb HB hb;(try clear hb);(try clear hb2);(try clear hk);(try clear hi);refine hK.out _ _ ⟨bc BK129 0, bc BK129 1, bc BK129 2, bc BK129 3, bc BK126 0, bc BK126 1, ((HB.out.cell (World.block_lt_of_cell? w _ hw132_0)).trans hw132_0), ((HB.out.cell (World.block_lt_of_cell? w _ hw132_1)).trans hw132_1), ((HB.out.cell (World.block_lt_of_cell? w _ hw132_2)).trans hw132_2), ((HB.out.cell (World.block_lt_of_cell? w _ hw132_3)).trans hw132_3)⟩ (fun hHeld => ?_);clear hK K;refine nm 30 ?_;refine pu HT_ 2 31 (bm 29 7) ?_;refine pu HT_ 3 32 (bm 29 15) ?_;refine pu HT_ 4 33 (bm 29 31) ?_;refine pu HT_ 6 35 (bm 29 95) ?_;refine tk HT_ HW_ 5 34 (bm 29 127) hHeld ?_;refine tk HT_ HW_ 7 36 (bm 29 255) hHeld ?_;refine on HT_ 8 37 (bm 29 511) (fun K hK => ?_);refine gR Try.func28 #[.int .i64 ((rd_T38 l0_1 x3_2).f2), .int .i64 1, .int .i64 a0_0] ?_;(with_reducible refine (spec_l1In.calls ((rd_T38 l0_1 x3_2).f2) 1 a0_0 true _ A18.out).mono ?_);rintro e w' ⟨rfl, ⟨nd, rfl⟩⟩;refine ⟨_, rfl, ?_⟩;refine hK.out _ _ ⟨bc BK129 0, bc BK129 1, bc BK129 2, bc BK129 3, bc BK126 0, bc BK126 1, ((HB.out.cell (World.block_lt_of_cell? w _ hw132_0)).trans hw132_0), ((HB.out.cell (World.block_lt_of_cell? w _ hw132_1)).trans hw132_1), ((HB.out.cell (World.block_lt_of_cell? w _ hw132_2)).trans hw132_2), ((HB.out.cell (World.block_lt_of_cell? w _ hw132_3)).trans hw132_3)⟩ (fun hHeld => ?_);clear hK K;refine nm 37 ?_;refine pu HT_ 9 38 (bm 29 1023) ?_;refine pu HT_ 10 39 (bm 29 2047) ?_;refine pu HT_ 11 40 (bm 29 4095) ?_;refine pu HT_ 12 41 (bm 29 8191) ?_;refine pu HT_ 13 42 (bm 29 16383) ?_;refine pu HT_ 14 43 (bm 29 32767) ?_;refine pu HT_ 15 44 (bm 29 65535) ?_;refine pu HT_ 17 46 (bm 29 196607) ?_;refine pu HT_ 18 47 (bm 29 458751) ?_;refine pu HT_ 21 50 (bm 29 2555903) ?_;refine pu HT_ 23 52 (bm 29 10944511) ?_;refine tk HT_ HW_ 16 45 (bm 29 11010047) hHeld ?_;refine pu HT_ 19 48 (bm 29 11534335) ?_;refine tk HT_ HW_ 20 49 (bm 29 12582911) hHeld ?_;refine tk HT_ HW_ 22 51 (bm 29 16777215) hHeld ?_;refine tk HT_ HW_ 24 53 (bm 29 33554431) hHeld ?_;refine on HT_ 25 54 (bm 29 67108863) (fun K hK => ?_);refine goes_ Try.func29 (by kernel_rfl) rfl #[.agg #[.int .i64 ((rd_T38 l0_1 (ji21)).f0), .string ((rd_T38 l0_1 (ji21)).f1), .int .i64 ((rd_T38 l0_1 (ji21)).f2), .string ((rd_T38 l0_1 (ji21)).f3)], .int .i64 ((rd_T38 l0_1 x3_2).f0), .string ((rd_T38 l0_1 x3_2).f1)] (by rfl) rfl rfl (by (try simp only [List.map_toArray, List.map_cons, List.map_nil]); first | done | (simp only [hji21]; rfl) | rfl | (simp only [List.length_drop, List.length_take]; rfl)) ?_;(with_reducible refine (spec_l9Less.calls k2 ((rd_T38 l0_1 (ji21)).f0) ((rd_T38 l0_1 (ji21)).f1) ((rd_T38 l0_1 (ji21)).f2) ((rd_T38 l0_1 (ji21)).f3) ((rd_T38 l0_1 x3_2).f0) ((rd_T38 l0_1 x3_2).f1) t133 _ A24.out).mono ?_);rintro e w28 ⟨rfl, hb⟩;refine ⟨_, rfl, ?_⟩;replace BK126 := kb BK126 hb;replace BK129 := kb BK129 hb;replace HB := hbb HB hb;(try clear hb);(try clear hb2);(try clear hk);(try clear hi);refine hK.out _ _ ⟨bc BK129 0, bc BK129 1, bc BK129 2, bc BK129 3, bc BK126 0, bc BK126 1, ((HB.out.cell (World.block_lt_of_cell? w _ hw132_0)).trans hw132_0), ((HB.out.cell (World.block_lt_of_cell? w _ hw132_1)).trans hw132_1), ((HB.out.cell (World.block_lt_of_cell? w _ hw132_2)).trans hw132_2), ((HB.out.cell (World.block_lt_of_cell? w _ hw132_3)).trans hw132_3)⟩ (fun hHeld => ?_);clear hK K;refine nm 54 ?_;refine pu HT_ 26 55 (bm 29 134217727) ?_;refine pu HT_ 27 56 (bm 29 268435455) ?_;refine pu HT_ 28 57 (bm 29 536870911) ?_;refine done_ (done_of HT_.out (by kernel_rfl)) ?_
              try go_wp2
              go_meet
              case rel => exact ⟨_, (!t133), rs, H', ⟨by have := HJ1.out; have := HK2.out; first | omega | exact Nat.le_refl _⟩, ⟨bl BK126.out⟩, ⟨bl BK129.out⟩, ⟨by exact bb HB.out⟩⟩
             rw [if_neg c23] at H;exact absurd H (by simp)
            rw [if_neg c22] at H;exact absurd H (by simp)
           rw [if_neg c20] at H;have c20b0 : decide (0 < x3_2) = false := decide_eq_false c20;clear c20;(first | rw [c20b0] | (simp only [i64_w, i32_w]; rw [c20b0]) | skip);have H' := Aside0.mk H;clear H
           try go_wp2
           obtain ⟨w29, hw_⟩ : ∃ W_, ((((w13.setCell ⟨gb129, 0, none⟩ (.int .i64 ((rd_T38 l0_1 x3_2).f0))).setCell ⟨gb129, 1, none⟩ (.string ((rd_T38 l0_1 x3_2).f1))).setCell ⟨gb129, 2, none⟩ (.int .i64 ((rd_T38 l0_1 x3_2).f2))).setCell ⟨gb129, 3, none⟩ (.string ((rd_T38 l0_1 x3_2).f3))) = W_ := ⟨_, rfl⟩;have hi_ : Lax gb129 w13 w29 := (by rw [← hw_]; infer_instance);have n0_ : Aside0 (w29.heap[gb126]? = some (.cells #[.int .i64 a0_0, .slice (some ad128) l0_1.length c0_1] 25 (0, 0))) := ⟨bx (a := gb129) BK126.out NB126_129.out⟩;have n1_ : Aside0 (w29.heap[gb129]? = some (.cells #[.int .i64 ((rd_T38 l0_1 x3_2).f0), .string ((rd_T38 l0_1 x3_2).f1), .int .i64 ((rd_T38 l0_1 x3_2).f2), .string ((rd_T38 l0_1 x3_2).f3)] 38 (0, 0))) := ⟨by rw [← hw_]; exact (bp BK129.out (by rfl))⟩;have n2_ : Aside0 (Below w.heap.size w w29) := ⟨by exact bbx (a := gb129) HB.out GE129.out⟩;(try clear BK126);(try clear BK129);(try clear HB);clear hi_;(try rw [hw_]);clear hw_;have BK126 := n0_;have BK129 := n1_;have HB := n2_;clear n0_ n1_ n2_;replace BK126 := Aside0.mk (blk_drew BK126.out);replace BK129 := Aside0.mk (blk_drew BK129.out);replace HB := Aside0.mk (below_drew1 HB.out);refine start_ (n := 29) (S := fun w' => w'.cell? ⟨gb129, 0, none⟩ = some (.int .i64 ((rd_T38 l0_1 x3_2).f0)) ∧ w'.cell? ⟨gb129, 1, none⟩ = some (.string ((rd_T38 l0_1 x3_2).f1)) ∧ w'.cell? ⟨gb129, 2, none⟩ = some (.int .i64 ((rd_T38 l0_1 x3_2).f2)) ∧ w'.cell? ⟨gb129, 3, none⟩ = some (.string ((rd_T38 l0_1 x3_2).f3)) ∧ w'.cell? ⟨gb126, 0, none⟩ = some (.int .i64 a0_0) ∧ w'.cell? ⟨gb126, 1, none⟩ = some (.slice (some ad128) l0_1.length c0_1)) (ds := []) (bm 29 0) (by kernel_rfl) rfl rfl ⟨bc BK129 0, bc BK129 1, bc BK129 2, bc BK129 3, bc BK126 0, bc BK126 1⟩ (fun hHeld => ?_); refine with_tabW spec_CatOk.tab7 spec_CatOk.bits7 (fun HT_ HW_ => ?_)
           generalize w29.drew = w30 at BK126 BK129 HB hHeld ⊢;refine tk HT_ HW_ 0 29 (bm 29 1) hHeld ?_;refine on HT_ 1 30 (bm 29 3) (fun K hK => ?_);refine gR Try.func23 #[.agg #[.int .i64 ((rd_T38 l0_1 x3_2).f0), .string ((rd_T38 l0_1 x3_2).f1), .int .i64 ((rd_T38 l0_1 x3_2).f2), .string ((rd_T38 l0_1 x3_2).f3)]] ?_;(with_reducible refine (spec_l9Ok.calls k2 ((rd_T38 l0_1 x3_2).f0) ((rd_T38 l0_1 x3_2).f1) ((rd_T38 l0_1 x3_2).f2) ((rd_T38 l0_1 x3_2).f3) true _ A16.out).mono ?_);rintro e w31 ⟨rfl, hb⟩;refine ⟨_, rfl, ?_⟩;replace BK126 := kb BK126 hb;replace BK129 := kb BK129 hb;replace HB := hbb HB hb;(try clear hb);(try clear hb2);(try clear hk);(try clear hi);refine hK.out _ _ ⟨bc BK129 0, bc BK129 1, bc BK129 2, bc BK129 3, bc BK126 0, bc BK126 1⟩ (fun hHeld => ?_);clear hK K;refine nm 30 ?_;refine pu HT_ 2 31 (bm 29 7) ?_;refine pu HT_ 3 32 (bm 29 15) ?_;refine pu HT_ 4 33 (bm 29 31) ?_;refine pu HT_ 6 35 (bm 29 95) ?_;refine tk HT_ HW_ 5 34 (bm 29 127) hHeld ?_;refine tk HT_ HW_ 7 36 (bm 29 255) hHeld ?_;refine on HT_ 8 37 (bm 29 511) (fun K hK => ?_);refine gR Try.func28 #[.int .i64 ((rd_T38 l0_1 x3_2).f2), .int .i64 1, .int .i64 a0_0] ?_;(with_reducible refine (spec_l1In.calls ((rd_T38 l0_1 x3_2).f2) 1 a0_0 true _ A18.out).mono ?_);rintro e w' ⟨rfl, ⟨nd, rfl⟩⟩;refine ⟨_, rfl, ?_⟩;refine hK.out _ _ ⟨bc BK129 0, bc BK129 1, bc BK129 2, bc BK129 3, bc BK126 0, bc BK126 1⟩ (fun hHeld => ?_);clear hK K;refine nm 37 ?_;refine pu HT_ 9 38 (bm 29 1023) ?_;refine pu HT_ 10 39 (bm 29 2047) ?_;refine pu HT_ 11 40 (bm 29 4095) ?_;refine pu HT_ 12 41 (bm 29 8191) ?_;refine pu HT_ 13 42 (bm 29 16383) ?_;refine pu HT_ 14 43 (bm 29 32767) ?_;refine pd HT_ 15 44 (bm 29 65535) ?_;refine pd HT_ 16 45 (bm 29 131071) ?_;refine pd HT_ 17 46 (bm 29 262143) ?_;refine pd HT_ 18 47 (bm 29 524287) ?_;refine pd HT_ 19 48 (bm 29 1048575) ?_;refine pd HT_ 20 49 (bm 29 2097151) ?_;refine pd HT_ 21 50 (bm 29 4194303) ?_;refine pd HT_ 22 51 (bm 29 8388607) ?_;refine pd HT_ 23 52 (bm 29 16777215) ?_;refine pd HT_ 24 53 (bm 29 33554431) ?_;refine pd HT_ 25 54 (bm 29 67108863) ?_;refine pd HT_ 26 55 (bm 29 134217727) ?_;refine pu HT_ 27 56 (bm 29 268435455) ?_;refine pu HT_ 28 57 (bm 29 536870911) ?_;refine done_ (done_of HT_.out (by kernel_rfl)) ?_
           try go_wp2
           go_meet
           case rel => exact ⟨_, (false), rs, H', ⟨by have := HJ1.out; have := HK2.out; first | omega | exact Nat.le_refl _⟩, ⟨bl BK126.out⟩, ⟨bl BK129.out⟩, ⟨by exact bb HB.out⟩⟩
          replace c19 := Bool.eq_false_iff.mpr c19;subst c19;rw [if_neg (show ¬ (false = true) by decide)] at H;have H' := Aside0.mk H;clear H
          try go_wp2
          obtain ⟨w32, hw_⟩ : ∃ W_, ((((w13.setCell ⟨gb129, 0, none⟩ (.int .i64 ((rd_T38 l0_1 x3_2).f0))).setCell ⟨gb129, 1, none⟩ (.string ((rd_T38 l0_1 x3_2).f1))).setCell ⟨gb129, 2, none⟩ (.int .i64 ((rd_T38 l0_1 x3_2).f2))).setCell ⟨gb129, 3, none⟩ (.string ((rd_T38 l0_1 x3_2).f3))) = W_ := ⟨_, rfl⟩;have hi_ : Lax gb129 w13 w32 := (by rw [← hw_]; infer_instance);have n0_ : Aside0 (w32.heap[gb126]? = some (.cells #[.int .i64 a0_0, .slice (some ad128) l0_1.length c0_1] 25 (0, 0))) := ⟨bx (a := gb129) BK126.out NB126_129.out⟩;have n1_ : Aside0 (w32.heap[gb129]? = some (.cells #[.int .i64 ((rd_T38 l0_1 x3_2).f0), .string ((rd_T38 l0_1 x3_2).f1), .int .i64 ((rd_T38 l0_1 x3_2).f2), .string ((rd_T38 l0_1 x3_2).f3)] 38 (0, 0))) := ⟨by rw [← hw_]; exact (bp BK129.out (by rfl))⟩;have n2_ : Aside0 (Below w.heap.size w w32) := ⟨by exact bbx (a := gb129) HB.out GE129.out⟩;(try clear BK126);(try clear BK129);(try clear HB);clear hi_;(try rw [hw_]);clear hw_;have BK126 := n0_;have BK129 := n1_;have HB := n2_;clear n0_ n1_ n2_;replace BK126 := Aside0.mk (blk_drew BK126.out);replace BK129 := Aside0.mk (blk_drew BK129.out);replace HB := Aside0.mk (below_drew1 HB.out);refine start_ (n := 29) (S := fun w' => w'.cell? ⟨gb129, 0, none⟩ = some (.int .i64 ((rd_T38 l0_1 x3_2).f0)) ∧ w'.cell? ⟨gb129, 1, none⟩ = some (.string ((rd_T38 l0_1 x3_2).f1)) ∧ w'.cell? ⟨gb129, 2, none⟩ = some (.int .i64 ((rd_T38 l0_1 x3_2).f2)) ∧ w'.cell? ⟨gb129, 3, none⟩ = some (.string ((rd_T38 l0_1 x3_2).f3)) ∧ w'.cell? ⟨gb126, 0, none⟩ = some (.int .i64 a0_0) ∧ w'.cell? ⟨gb126, 1, none⟩ = some (.slice (some ad128) l0_1.length c0_1)) (ds := []) (bm 29 0) (by kernel_rfl) rfl rfl ⟨bc BK129 0, bc BK129 1, bc BK129 2, bc BK129 3, bc BK126 0, bc BK126 1⟩ (fun hHeld => ?_); refine with_tabW spec_CatOk.tab7 spec_CatOk.bits7 (fun HT_ HW_ => ?_)
          generalize w32.drew = w33 at BK126 BK129 HB hHeld ⊢;refine tk HT_ HW_ 0 29 (bm 29 1) hHeld ?_;refine on HT_ 1 30 (bm 29 3) (fun K hK => ?_);refine gR Try.func23 #[.agg #[.int .i64 ((rd_T38 l0_1 x3_2).f0), .string ((rd_T38 l0_1 x3_2).f1), .int .i64 ((rd_T38 l0_1 x3_2).f2), .string ((rd_T38 l0_1 x3_2).f3)]] ?_;(with_reducible refine (spec_l9Ok.calls k2 ((rd_T38 l0_1 x3_2).f0) ((rd_T38 l0_1 x3_2).f1) ((rd_T38 l0_1 x3_2).f2) ((rd_T38 l0_1 x3_2).f3) true _ A16.out).mono ?_);rintro e w34 ⟨rfl, hb⟩;refine ⟨_, rfl, ?_⟩;replace BK126 := kb BK126 hb;replace BK129 := kb BK129 hb;replace HB := hbb HB hb;(try clear hb);(try clear hb2);(try clear hk);(try clear hi);refine hK.out _ _ ⟨bc BK129 0, bc BK129 1, bc BK129 2, bc BK129 3, bc BK126 0, bc BK126 1⟩ (fun hHeld => ?_);clear hK K;refine nm 30 ?_;refine pu HT_ 2 31 (bm 29 7) ?_;refine pu HT_ 3 32 (bm 29 15) ?_;refine pu HT_ 4 33 (bm 29 31) ?_;refine pu HT_ 6 35 (bm 29 95) ?_;refine tk HT_ HW_ 5 34 (bm 29 127) hHeld ?_;refine tk HT_ HW_ 7 36 (bm 29 255) hHeld ?_;refine on HT_ 8 37 (bm 29 511) (fun K hK => ?_);refine gR Try.func28 #[.int .i64 ((rd_T38 l0_1 x3_2).f2), .int .i64 1, .int .i64 a0_0] ?_;(with_reducible refine (spec_l1In.calls ((rd_T38 l0_1 x3_2).f2) 1 a0_0 false _ A18.out).mono ?_);rintro e w' ⟨rfl, ⟨nd, rfl⟩⟩;refine ⟨_, rfl, ?_⟩;refine hK.out _ _ ⟨bc BK129 0, bc BK129 1, bc BK129 2, bc BK129 3, bc BK126 0, bc BK126 1⟩ (fun hHeld => ?_);clear hK K;refine nm 37 ?_;refine pu HT_ 9 38 (bm 29 1023) ?_;refine pu HT_ 10 39 (bm 29 2047) ?_;refine pu HT_ 11 40 (bm 29 4095) ?_;refine pd HT_ 12 41 (bm 29 8191) ?_;refine pd HT_ 13 42 (bm 29 16383) ?_;refine pd HT_ 14 43 (bm 29 32767) ?_;refine pd HT_ 15 44 (bm 29 65535) ?_;refine pd HT_ 16 45 (bm 29 131071) ?_;refine pd HT_ 17 46 (bm 29 262143) ?_;refine pd HT_ 18 47 (bm 29 524287) ?_;refine pd HT_ 19 48 (bm 29 1048575) ?_;refine pd HT_ 20 49 (bm 29 2097151) ?_;refine pd HT_ 21 50 (bm 29 4194303) ?_;refine pd HT_ 22 51 (bm 29 8388607) ?_;refine pd HT_ 23 52 (bm 29 16777215) ?_;refine pd HT_ 24 53 (bm 29 33554431) ?_;refine pd HT_ 25 54 (bm 29 67108863) ?_;refine pd HT_ 26 55 (bm 29 134217727) ?_;refine pd HT_ 27 56 (bm 29 268435455) ?_;refine pu HT_ 28 57 (bm 29 536870911) ?_;refine done_ (done_of HT_.out (by kernel_rfl)) ?_
          try go_wp2
          go_meet
          case rel => exact ⟨_, (true), rs, H', ⟨by have := HJ1.out; have := HK2.out; first | omega | exact Nat.le_refl _⟩, ⟨bl BK126.out⟩, ⟨bl BK129.out⟩, ⟨by exact bb HB.out⟩⟩
         replace c17 := Bool.eq_false_iff.mpr c17;subst c17;rw [if_neg (show ¬ (false = true) by decide)] at H;have H' := Aside0.mk H;clear H
         try go_wp2
         obtain ⟨w35, hw_⟩ : ∃ W_, ((((w13.setCell ⟨gb129, 0, none⟩ (.int .i64 ((rd_T38 l0_1 x3_2).f0))).setCell ⟨gb129, 1, none⟩ (.string ((rd_T38 l0_1 x3_2).f1))).setCell ⟨gb129, 2, none⟩ (.int .i64 ((rd_T38 l0_1 x3_2).f2))).setCell ⟨gb129, 3, none⟩ (.string ((rd_T38 l0_1 x3_2).f3))) = W_ := ⟨_, rfl⟩;have hi_ : Lax gb129 w13 w35 := (by rw [← hw_]; infer_instance);have n0_ : Aside0 (w35.heap[gb126]? = some (.cells #[.int .i64 a0_0, .slice (some ad128) l0_1.length c0_1] 25 (0, 0))) := ⟨bx (a := gb129) BK126.out NB126_129.out⟩;have n1_ : Aside0 (w35.heap[gb129]? = some (.cells #[.int .i64 ((rd_T38 l0_1 x3_2).f0), .string ((rd_T38 l0_1 x3_2).f1), .int .i64 ((rd_T38 l0_1 x3_2).f2), .string ((rd_T38 l0_1 x3_2).f3)] 38 (0, 0))) := ⟨by rw [← hw_]; exact (bp BK129.out (by rfl))⟩;have n2_ : Aside0 (Below w.heap.size w w35) := ⟨by exact bbx (a := gb129) HB.out GE129.out⟩;(try clear BK126);(try clear BK129);(try clear HB);clear hi_;(try rw [hw_]);clear hw_;have BK126 := n0_;have BK129 := n1_;have HB := n2_;clear n0_ n1_ n2_;replace BK126 := Aside0.mk (blk_drew BK126.out);replace BK129 := Aside0.mk (blk_drew BK129.out);replace HB := Aside0.mk (below_drew1 HB.out);refine start_ (n := 29) (S := fun w' => w'.cell? ⟨gb129, 0, none⟩ = some (.int .i64 ((rd_T38 l0_1 x3_2).f0)) ∧ w'.cell? ⟨gb129, 1, none⟩ = some (.string ((rd_T38 l0_1 x3_2).f1)) ∧ w'.cell? ⟨gb129, 2, none⟩ = some (.int .i64 ((rd_T38 l0_1 x3_2).f2)) ∧ w'.cell? ⟨gb129, 3, none⟩ = some (.string ((rd_T38 l0_1 x3_2).f3))) (ds := []) (bm 29 0) (by kernel_rfl) rfl rfl ⟨bc BK129 0, bc BK129 1, bc BK129 2, bc BK129 3⟩ (fun hHeld => ?_); refine with_tabW spec_CatOk.tab7 spec_CatOk.bits7 (fun HT_ HW_ => ?_)
         generalize w35.drew = w36 at BK126 BK129 HB hHeld ⊢;refine tk HT_ HW_ 0 29 (bm 29 1) hHeld ?_;refine on HT_ 1 30 (bm 29 3) (fun K hK => ?_);refine gR Try.func23 #[.agg #[.int .i64 ((rd_T38 l0_1 x3_2).f0), .string ((rd_T38 l0_1 x3_2).f1), .int .i64 ((rd_T38 l0_1 x3_2).f2), .string ((rd_T38 l0_1 x3_2).f3)]] ?_;(with_reducible refine (spec_l9Ok.calls k2 ((rd_T38 l0_1 x3_2).f0) ((rd_T38 l0_1 x3_2).f1) ((rd_T38 l0_1 x3_2).f2) ((rd_T38 l0_1 x3_2).f3) false _ A16.out).mono ?_);rintro e w37 ⟨rfl, hb⟩;refine ⟨_, rfl, ?_⟩;replace BK126 := kb BK126 hb;replace BK129 := kb BK129 hb;replace HB := hbb HB hb;(try clear hb);(try clear hb2);(try clear hk);(try clear hi);refine hK.out _ _ ⟨bc BK129 0, bc BK129 1, bc BK129 2, bc BK129 3⟩ (fun hHeld => ?_);clear hK K;refine nm 30 ?_;refine pu HT_ 2 31 (bm 29 7) ?_;refine pu HT_ 3 32 (bm 29 15) ?_;refine pd HT_ 4 33 (bm 29 31) ?_;refine pd HT_ 5 34 (bm 29 63) ?_;refine pd HT_ 6 35 (bm 29 127) ?_;refine pd HT_ 7 36 (bm 29 255) ?_;refine pd HT_ 8 37 (bm 29 511) ?_;refine pd HT_ 9 38 (bm 29 1023) ?_;refine pu HT_ 10 39 (bm 29 2047) ?_;refine pu HT_ 11 40 (bm 29 4095) ?_;refine pd HT_ 12 41 (bm 29 8191) ?_;refine pd HT_ 13 42 (bm 29 16383) ?_;refine pd HT_ 14 43 (bm 29 32767) ?_;refine pd HT_ 15 44 (bm 29 65535) ?_;refine pd HT_ 16 45 (bm 29 131071) ?_;refine pd HT_ 17 46 (bm 29 262143) ?_;refine pd HT_ 18 47 (bm 29 524287) ?_;refine pd HT_ 19 48 (bm 29 1048575) ?_;refine pd HT_ 20 49 (bm 29 2097151) ?_;refine pd HT_ 21 50 (bm 29 4194303) ?_;refine pd HT_ 22 51 (bm 29 8388607) ?_;refine pd HT_ 23 52 (bm 29 16777215) ?_;refine pd HT_ 24 53 (bm 29 33554431) ?_;refine pd HT_ 25 54 (bm 29 67108863) ?_;refine pd HT_ 26 55 (bm 29 134217727) ?_;refine pd HT_ 27 56 (bm 29 268435455) ?_;refine pu HT_ 28 57 (bm 29 536870911) ?_;refine done_ (done_of HT_.out (by kernel_rfl)) ?_
         try go_wp2
         go_meet
         case rel => exact ⟨_, (true), rs, H', ⟨by have := HJ1.out; have := HK2.out; first | omega | exact Nat.le_refl _⟩, ⟨bl BK126.out⟩, ⟨bl BK129.out⟩, ⟨by exact bb HB.out⟩⟩
        case rest =>
         clear HC11;(try clear c1);(try clear c2);(try clear p2);(try clear c17);(try clear c19);(try clear c23);(try clear c28);obtain ⟨kq, x57_10, rfl, HA, HJ10, BK126, BK129, HB⟩ := hcut
         cases kq with
         | zero => exact absurd HA.out (by simp [spec_CatOk.j2])
         | succ kj10 =>
          have H := HA.out;clear HA;simp only [spec_CatOk.j2] at H
          by_cases c38 : x57_10 = true
          ·subst c38;rw [if_pos rfl] at H;obtain rfl := Option.some.inj H;go_wp2;go_ret;exact ⟨by first | rfl | (simp [errW_none, errW_some] <;> rfl) | (simp [*, errW_none, errW_some] <;> rfl), by exact bb HB.out⟩
          replace c38 := Bool.eq_false_iff.mpr c38;subst c38;rw [if_neg (show ¬ (false = true) by decide)] at H;have H' := Aside0.mk H;clear H;go_wp2
          go_loopg [5] kj10 (fun kq v5 w' => ∃ (x5_4 : Int), v5 = .int .i64 x5_4 ∧ Aside0 (spec_CatOk.l1 kq x3_2 x5_4 a0_0 l0_1 ((rd_T38 l0_1 x3_2).f0) ((rd_T38 l0_1 x3_2).f1) ((rd_T38 l0_1 x3_2).f2) ((rd_T38 l0_1 x3_2).f3) = some r) ∧ Aside0 (kq ≤ kj10) ∧ Aside0 (w'.heap[gb126]? = some (.cells #[.int .i64 a0_0, (.slice (some ad128) l0_1.length c0_1)] 25 (0, 0))) ∧ Aside0 (w'.heap[gb129]? = some (.cells #[.int .i64 ((rd_T38 l0_1 x3_2).f0), .string ((rd_T38 l0_1 x3_2).f1), .int .i64 ((rd_T38 l0_1 x3_2).f2), .string ((rd_T38 l0_1 x3_2).f3)] 38 (0, 0))) ∧ Aside0 (Below w.heap.size w w'))
          case atStart => exact ⟨(0), rs, H', ⟨Nat.le_refl _⟩, ⟨bl BK126.out⟩, ⟨bl BK129.out⟩, ⟨by exact bb HB.out⟩⟩
          case round =>
           clear H';(try clear c1);(try clear c2);(try clear p2);(try clear c3);(try clear c17);(try clear c19);(try clear c23);(try clear c28);(try clear c38);(try clear p2);obtain ⟨x5_4, rfl, HA, HK4, BK126, BK129, HB⟩ := hrel
           cases gk with
           | zero => exact absurd HA.out (by simp [spec_CatOk.l1])
           | succ k4 =>
            have H := HA.out;clear HA;simp only [spec_CatOk.l1] at H
            by_cases c39 : x5_4 < x3_2
            ·rw [if_pos c39] at H;have c39b0 : decide (x5_4 < x3_2) = true := decide_eq_true c39;clear c39
             by_cases c40 : 0 ≤ x5_4
             ·rw [if_pos c40] at H;have c40b0 : decide (0 ≤ x5_4) = true := decide_eq_true c40;clear c40
              by_cases c41 : x5_4 < (l0_1.length : Int)
              ·rw [if_pos c41] at H;have c41b0 : decide (x5_4 < (l0_1.length : Int)) = true := decide_eq_true c41;clear c41
               by_cases c42 : ((rd_T38 l0_1 x5_4).f2) = ((rd_T38 l0_1 x3_2).f2)
               ·rw [if_pos c42] at H;have c42b0 : (((rd_T38 l0_1 x5_4).f2) == ((rd_T38 l0_1 x3_2).f2)) = true := beq_iff_eq.mpr c42;have c42b1 : (((rd_T38 l0_1 x5_4).f2) != ((rd_T38 l0_1 x3_2).f2)) = false := bne_eq_false_iff_eq.mpr c42;clear c42;obtain rfl := Option.some.inj H
                try go_wp2
                replace BK126 := Aside0.mk (blk_drew BK126.out);replace BK129 := Aside0.mk (blk_drew BK129.out);replace HB := Aside0.mk (below_drew1 HB.out);have p134 : 0 ≤ (x5_4 : Int) := of_decide_eq_true am;have q134 : x5_4 < (l0_1.length : Int) := of_decide_eq_true am;obtain ⟨ad134, e134, hx134_0, hx134_1, hx134_2, hx134_3⟩ := at_T38 HR0_1.out x5_4 p134 q134;have hw134_3 := hx134_3;have hw134_2 := hx134_2;have hw134_1 := hx134_1;have hw134_0 := hx134_0;obtain rfl : ad128 = ad134 := (by injection e134);replace hx134_0 := (HB.out.cell (World.block_lt_of_cell? w _ hx134_0)).trans hx134_0;replace hx134_1 := (HB.out.cell (World.block_lt_of_cell? w _ hx134_1)).trans hx134_1;replace hx134_2 := (HB.out.cell (World.block_lt_of_cell? w _ hx134_2)).trans hx134_2;replace hx134_3 := (HB.out.cell (World.block_lt_of_cell? w _ hx134_3)).trans hx134_3;replace p134 := eq_true p134;replace q134 := eq_true q134;refine start_ (n := 9) (S := fun w' => w'.cell? ⟨gb126, 0, none⟩ = some (.int .i64 a0_0) ∧ w'.cell? ⟨gb126, 1, none⟩ = some (.slice (some ad128) l0_1.length c0_1) ∧ w'.cell? ⟨gb129, 0, none⟩ = some (.int .i64 ((rd_T38 l0_1 x3_2).f0)) ∧ w'.cell? ⟨gb129, 1, none⟩ = some (.string ((rd_T38 l0_1 x3_2).f1)) ∧ w'.cell? ⟨gb129, 2, none⟩ = some (.int .i64 ((rd_T38 l0_1 x3_2).f2)) ∧ w'.cell? ⟨gb129, 3, none⟩ = some (.string ((rd_T38 l0_1 x3_2).f3)) ∧ w'.cell? (ad128.add ((x5_4).toNat * 4)) = some (.int .i64 ((rd_T38 l0_1 x5_4).f0)) ∧ w'.cell? ⟨(ad128.add ((x5_4).toNat * 4)).block, (ad128.add ((x5_4).toNat * 4)).off + 1, none⟩ = some (.string ((rd_T38 l0_1 x5_4).f1)) ∧ w'.cell? ⟨(ad128.add ((x5_4).toNat * 4)).block, (ad128.add ((x5_4).toNat * 4)).off + 2, none⟩ = some (.int .i64 ((rd_T38 l0_1 x5_4).f2)) ∧ w'.cell? ⟨(ad128.add ((x5_4).toNat * 4)).block, (ad128.add ((x5_4).toNat * 4)).off + 3, none⟩ = some (.string ((rd_T38 l0_1 x5_4).f3))) (ds := []) (bm 9 0) (by kernel_rfl) rfl rfl ⟨bc BK126 0, bc BK126 1, bc BK129 0, bc BK129 1, bc BK129 2, bc BK129 3, ((HB.out.cell (World.block_lt_of_cell? w _ hw134_0)).trans hw134_0), ((HB.out.cell (World.block_lt_of_cell? w _ hw134_1)).trans hw134_1), ((HB.out.cell (World.block_lt_of_cell? w _ hw134_2)).trans hw134_2), ((HB.out.cell (World.block_lt_of_cell? w _ hw134_3)).trans hw134_3)⟩ (fun hHeld => ?_); refine with_tabW spec_CatOk.tab12 spec_CatOk.bits12 (fun HT_ HW_ => ?_)
                generalize wr.drew = w43 at BK126 BK129 HB hx134_0 hx134_1 hx134_2 hx134_3 hHeld ⊢;refine pu HT_ 0 63 (bm 9 1) ?_;refine pu HT_ 2 65 (bm 9 5) ?_;refine pu HT_ 6 69 (bm 9 69) ?_;refine tk HT_ HW_ 1 64 (bm 9 71) hHeld ?_;refine pu HT_ 3 66 (bm 9 79) ?_;refine pu HT_ 4 67 (bm 9 95) ?_;refine tk HT_ HW_ 5 68 (bm 9 127) hHeld ?_;refine tk HT_ HW_ 7 70 (bm 9 255) hHeld ?_;refine pu HT_ 8 71 (bm 9 511) ?_;refine done_ (done_of HT_.out (by kernel_rfl)) ?_
                try go_wp2
                go_ret;exact ⟨by first | rfl | (simp [errW_none, errW_some] <;> rfl) | (simp [*, errW_none, errW_some] <;> rfl), by exact bb HB.out⟩
               rw [if_neg c42] at H;have c42b0 : (((rd_T38 l0_1 x5_4).f2) == ((rd_T38 l0_1 x3_2).f2)) = false := beq_eq_false_iff_ne.mpr c42;have c42b1 : (((rd_T38 l0_1 x5_4).f2) != ((rd_T38 l0_1 x3_2).f2)) = true := bne_iff_ne.mpr c42;have H' := Aside0.mk H;clear H
               try go_wp2
               replace BK126 := Aside0.mk (blk_drew BK126.out);replace BK129 := Aside0.mk (blk_drew BK129.out);replace HB := Aside0.mk (below_drew1 HB.out);have p134 : 0 ≤ (x5_4 : Int) := of_decide_eq_true am;have q134 : x5_4 < (l0_1.length : Int) := of_decide_eq_true am;obtain ⟨ad134, e134, hx134_0, hx134_1, hx134_2, hx134_3⟩ := at_T38 HR0_1.out x5_4 p134 q134;have hw134_3 := hx134_3;have hw134_2 := hx134_2;have hw134_1 := hx134_1;have hw134_0 := hx134_0;obtain rfl : ad128 = ad134 := (by injection e134);replace hx134_0 := (HB.out.cell (World.block_lt_of_cell? w _ hx134_0)).trans hx134_0;replace hx134_1 := (HB.out.cell (World.block_lt_of_cell? w _ hx134_1)).trans hx134_1;replace hx134_2 := (HB.out.cell (World.block_lt_of_cell? w _ hx134_2)).trans hx134_2;replace hx134_3 := (HB.out.cell (World.block_lt_of_cell? w _ hx134_3)).trans hx134_3;replace p134 := eq_true p134;replace q134 := eq_true q134;refine start_ (n := 9) (S := fun w' => w'.cell? ⟨gb126, 0, none⟩ = some (.int .i64 a0_0) ∧ w'.cell? ⟨gb126, 1, none⟩ = some (.slice (some ad128) l0_1.length c0_1) ∧ w'.cell? ⟨gb129, 0, none⟩ = some (.int .i64 ((rd_T38 l0_1 x3_2).f0)) ∧ w'.cell? ⟨gb129, 1, none⟩ = some (.string ((rd_T38 l0_1 x3_2).f1)) ∧ w'.cell? ⟨gb129, 2, none⟩ = some (.int .i64 ((rd_T38 l0_1 x3_2).f2)) ∧ w'.cell? ⟨gb129, 3, none⟩ = some (.string ((rd_T38 l0_1 x3_2).f3)) ∧ w'.cell? (ad128.add ((x5_4).toNat * 4)) = some (.int .i64 ((rd_T38 l0_1 x5_4).f0)) ∧ w'.cell? ⟨(ad128.add ((x5_4).toNat * 4)).block, (ad128.add ((x5_4).toNat * 4)).off + 1, none⟩ = some (.string ((rd_T38 l0_1 x5_4).f1)) ∧ w'.cell? ⟨(ad128.add ((x5_4).toNat * 4)).block, (ad128.add ((x5_4).toNat * 4)).off + 2, none⟩ = some (.int .i64 ((rd_T38 l0_1 x5_4).f2)) ∧ w'.cell? ⟨(ad128.add ((x5_4).toNat * 4)).block, (ad128.add ((x5_4).toNat * 4)).off + 3, none⟩ = some (.string ((rd_T38 l0_1 x5_4).f3))) (ds := []) (bm 9 0) (by kernel_rfl) rfl rfl ⟨bc BK126 0, bc BK126 1, bc BK129 0, bc BK129 1, bc BK129 2, bc BK129 3, ((HB.out.cell (World.block_lt_of_cell? w _ hw134_0)).trans hw134_0), ((HB.out.cell (World.block_lt_of_cell? w _ hw134_1)).trans hw134_1), ((HB.out.cell (World.block_lt_of_cell? w _ hw134_2)).trans hw134_2), ((HB.out.cell (World.block_lt_of_cell? w _ hw134_3)).trans hw134_3)⟩ (fun hHeld => ?_); refine with_tabW spec_CatOk.tab12 spec_CatOk.bits12 (fun HT_ HW_ => ?_)
               generalize wr.drew = w44 at BK126 BK129 HB hx134_0 hx134_1 hx134_2 hx134_3 hHeld ⊢;refine pu HT_ 0 63 (bm 9 1) ?_;refine pu HT_ 2 65 (bm 9 5) ?_;refine pu HT_ 6 69 (bm 9 69) ?_;refine tk HT_ HW_ 1 64 (bm 9 71) hHeld ?_;refine pu HT_ 3 66 (bm 9 79) ?_;refine pu HT_ 4 67 (bm 9 95) ?_;refine tk HT_ HW_ 5 68 (bm 9 127) hHeld ?_;refine tk HT_ HW_ 7 70 (bm 9 255) hHeld ?_;refine pu HT_ 8 71 (bm 9 511) ?_;refine done_ (done_of HT_.out (by kernel_rfl)) ?_
               try go_wp2
               go_roundg k4
               case measure => have := HJ1.out; have := HK2.out; have := HJ10.out; have := HK4.out; omega
               case rel => exact ⟨(wrap64 (x5_4 + 1)), rs, H', ⟨by have := HJ1.out; have := HK2.out; have := HJ10.out; have := HK4.out; omega⟩, ⟨bl BK126.out⟩, ⟨bl BK129.out⟩, ⟨by exact bb HB.out⟩⟩
              rw [if_neg c41] at H;exact absurd H (by simp)
             rw [if_neg c40] at H;exact absurd H (by simp)
            rw [if_neg c39] at H;have c39b0 : decide (x5_4 < x3_2) = false := decide_eq_false c39;clear c39;have H' := Aside0.mk H;clear H;go_wp2
            go_roundg k4
            case measure => have := HJ1.out; have := HK2.out; have := HJ10.out; have := HK4.out; omega
            case rel => exact ⟨(wrap64 (x3_2 + 1)), rs, H', ⟨by have := HJ1.out; have := HK2.out; have := HJ10.out; have := HK4.out; omega⟩, ⟨bl BK126.out⟩, ⟨by exact bb HB.out⟩⟩
       rw [if_neg c10] at H;exact absurd H (by simp)
      ·rw [if_neg c9] at H;have c9b0 : decide (x3_2 < (l0_1.length : Int)) = false := decide_eq_false c9;clear c9;have H' := Aside0.mk H;clear H;obtain ⟨hcz45_0, hcz45_1, hfz45_0, hfz45_1⟩ := c2 BK126;go_wp2
       go_loopg [6] k2 (fun kq v6 w' => ∃ (x6_3 : Int), v6 = .int .i64 x6_3 ∧ Aside0 (spec_CatOk.l2 kq x6_3 a0_0 l0_1 = some r) ∧ Aside0 (kq ≤ k2) ∧ Aside0 (w'.heap[gb126]? = some (.cells #[.int .i64 a0_0, (.slice A0_1 l0_1.length c0_1)] 25 (0, 0))) ∧ Aside0 (Below w.heap.size w w'))
       case atStart => exact ⟨(0), rs, H', ⟨Nat.le_refl _⟩, ⟨bl BK126.out⟩, ⟨by exact bb HB.out⟩⟩
       case round =>
        clear H';(try clear c1);(try clear p1);(try clear q1);(try clear hx1);(try clear c2);(try clear p2);(try clear c3);(try clear c4);(try clear p6);(try clear c9);(try clear c9b0);(try clear c10);(try clear p13);(try clear q13);(try clear hx13);(try clear c17);(try clear c19);(try clear c23);(try clear c28);(try clear c38);(try clear c39);(try clear c39b0);(try clear c40);(try clear c40b0);(try clear c41);(try clear c41b0);(try clear c42);(try clear c42b0);(try clear c42b1);(try clear hcz45_0);(try clear hcz45_1);(try clear hfz45_0);(try clear hfz45_1);(try clear hx134_0);(try clear hx134_1);(try clear hx134_2);(try clear hx134_3);(try clear p134);(try clear p2);(try clear q134);obtain ⟨x6_3, rfl, HA, HK3, BK126, HB⟩ := hrel
        cases gk with
        | zero => exact absurd HA.out (by simp [spec_CatOk.l2])
        | succ k3 =>
         have H := HA.out;clear HA;simp only [spec_CatOk.l2] at H
         by_cases c46 : x6_3 < 2
         ·rw [if_pos c46] at H;have c46b0 : decide (x6_3 < 2) = true := decide_eq_true c46;clear c46;replace H := Option.bind_eq_some_iff.mp H;obtain ⟨t135, A470, H⟩ := H;have A47 := Aside0.mk A470;clear A470
          by_cases c48 : t135 > 500
          ·rw [if_pos c48] at H;have c48b0 : decide (500 < t135) = true := decide_eq_true c48;clear c48;obtain rfl := Option.some.inj H;obtain ⟨hcz49_0, hcz49_1, hfz49_0, hfz49_1⟩ := c2 BK126;go_wp2_with (first | ((with_reducible refine gate_callee (f := 26) rfl ?_); refine gL 79 Try.func26 #[.slice A0_1 l0_1.length c0_1, .int .i64 x6_3] ?_; (with_reducible refine (spec_l9Bytes.calls k3 _ _ l0_1 x6_3 t135 _ ?side1 ?side2 A47.out).mono ?_); (case side1 => repeat (first | exact (Kd.C_below HR0_1.out HB.out) | (with_reducible refine Kd.C_alloc ?_ _) | (with_reducible refine Kd.C_drewN ?_ _) | (with_reducible refine Kd.C_drew ?_))); (case side2 => exact HC0_1.out); rintro e w' ⟨rfl, ⟨nd, rfl⟩⟩; refine ⟨_, rfl, ?_⟩));go_ret;exact ⟨by first | rfl | (simp [errW_none, errW_some] <;> rfl) | (simp [*, errW_none, errW_some] <;> rfl), by exact bb HB.out⟩
          rw [if_neg c48] at H;have c48b0 : decide (500 < t135) = false := decide_eq_false c48;clear c48;have H' := Aside0.mk H;clear H;obtain ⟨hcz50_0, hcz50_1, hfz50_0, hfz50_1⟩ := c2 BK126;go_wp2_with (first | ((with_reducible refine gate_callee (f := 26) rfl ?_); refine gL 79 Try.func26 #[.slice A0_1 l0_1.length c0_1, .int .i64 x6_3] ?_; (with_reducible refine (spec_l9Bytes.calls k3 _ _ l0_1 x6_3 t135 _ ?side1 ?side2 A47.out).mono ?_); (case side1 => repeat (first | exact (Kd.C_below HR0_1.out HB.out) | (with_reducible refine Kd.C_alloc ?_ _) | (with_reducible refine Kd.C_drewN ?_ _) | (with_reducible refine Kd.C_drew ?_))); (case side2 => exact HC0_1.out); rintro e w' ⟨rfl, ⟨nd, rfl⟩⟩; refine ⟨_, rfl, ?_⟩))
          go_roundg k3
          case measure => have := HJ1.out; have := HK2.out; have := HK3.out; omega
          case rel => exact ⟨(wrap64 (x6_3 + 1)), rs, H', ⟨by have := HJ1.out; have := HK2.out; have := HK3.out; omega⟩, ⟨bl BK126.out⟩, ⟨by exact bb HB.out⟩⟩
         rw [if_neg c46] at H;have c46b0 : decide (x6_3 < 2) = false := decide_eq_false c46;clear c46;obtain rfl := Option.some.inj H;go_wp2;go_ret;exact ⟨by first | rfl | (simp [errW_none, errW_some] <;> rfl) | (simp [*, errW_none, errW_some] <;> rfl), by exact bb HB.out⟩
mutual
def spec_l9At.l0 : Nat → Int → ByteArray → Int → Int → List (S38) → Option (Int)
 | 0, _, _, _, _, _ => none
 | k + 1, x1, x2, x7, x137000, x137001 => if x7 < (x137001.length : Int) then (if 0 ≤ x7 then (if ((rd_T38 x137001 x7).f0) = x1 then (spec_l9At.j1 k x1 x2 x7 (((rd_T38 x137001 x7).f1).toList == x2.toList) x137000 x137001) else (spec_l9At.j1 k x1 x2 x7 false x137000 x137001)) else (none)) else (some (-1))
def spec_l9At.j1 : Nat → Int → ByteArray → Int → Bool → Int → List (S38) → Option (Int)
 | 0, _, _, _, _, _, _ => none
 | k + 1, x1, x2, x7, x32, x137000, x137001 => if x32 = true then (some x7) else (spec_l9At.l0 k x1 x2 (wrap64 (x7 + 1)) x137000 x137001)
end
def spec_l9At.f (k : Nat) (a0_0 : Int) (l0_1 : List (S38)) (a1 : Int) (a2 : ByteArray) : Option (Int) := spec_l9At.l0 k a1 a2 0 a0_0 l0_1
theorem spec_l9At.mono_l : ∀ k, (∀ y0 y1 y2 y3 y4, LeO (spec_l9At.l0 k y0 y1 y2 y3 y4) (spec_l9At.l0 (k + 1) y0 y1 y2 y3 y4)) ∧ (∀ y0 y1 y2 y3 y4 y5, LeO (spec_l9At.j1 k y0 y1 y2 y3 y4 y5) (spec_l9At.j1 (k + 1) y0 y1 y2 y3 y4 y5))
 | 0 => ⟨fun _ _ _ _ _ r h => by simp [spec_l9At.l0] at h, fun _ _ _ _ _ _ r h => by simp [spec_l9At.j1] at h⟩
 | k + 1 => by
  obtain ⟨ih0, ih1⟩ := spec_l9At.mono_l k;refine ⟨?_, ?_⟩;intro y0 y1 y2 y3 y4; unfold spec_l9At.l0; rotate_left
  intro y0 y1 y2 y3 y4 y5; unfold spec_l9At.j1; rotate_left
  all_goals repeat' first
   | (with_reducible exact ih0 _ _ _ _ _)
   | (with_reducible exact ih1 _ _ _ _ _ _)
   | (with_reducible exact LeO.refl _)
   | (with_reducible exact LeO.none _)
   | (with_reducible refine LeO.ite ?_ ?_)
   | (with_reducible refine LeO.bind ?_ (fun _ => ?_))
   | exact LeO.none _
   | refine LeO.ite ?_ ?_
   | refine LeO.bind ?_ (fun _ => ?_)
theorem spec_l9At.mono : ∀ a0 a1 a2 a3 k, LeO (spec_l9At.f k a0 a1 a2 a3) (spec_l9At.f (k + 1) a0 a1 a2 a3) := by
 intro a0 a1 a2 a3 k;obtain ⟨ih0, ih1⟩ := spec_l9At.mono_l k;unfold spec_l9At.f
 repeat' first
   | (with_reducible exact ih0 _ _ _ _ _)
   | (with_reducible exact ih1 _ _ _ _ _ _)
   | (with_reducible exact LeO.refl _)
   | (with_reducible exact LeO.none _)
   | (with_reducible refine LeO.ite ?_ ?_)
   | (with_reducible refine LeO.bind ?_ (fun _ => ?_))
   | exact LeO.none _
   | refine LeO.ite ?_ ?_
   | refine LeO.bind ?_ (fun _ => ?_)
set_option maxHeartbeats 8000000 in
set_option maxRecDepth 100000 in
theorem spec_l9At.calls (k : Nat) (a0_0 : Int) (A0_1 : Option Addr) (c0_1 : Nat) (l0_1 : List (S38)) (a1 : Int) (a2 : ByteArray) (r : Int) (w : World) (hr0_1 : Kd.C k38 w A0_1 l0_1.length l0_1) (hc0_1 : l0_1.length ≤ c0_1) (h : spec_l9At.f k a0_0 l0_1 a1 a2 = some r) :
  Calls Try.prog 25 #[.agg #[.int .i64 a0_0, .slice A0_1 l0_1.length c0_1], .int .i64 a1, .string a2] w fun e w' => e = .returned (.int .i64 r) ∧ Below w.heap.size w w' := by
 have hu25 := Try.underlying25;have HR0_1 := Aside0.mk hr0_1;have HC0_1 := Aside0.mk hc0_1;clear hr0_1 hc0_1;have HB := Aside0.mk (Below.refl w.heap.size w);have H : (spec_l9At.l0 k a1 a2 0 a0_0 l0_1) = some r := h;clear h;have H' := Aside0.mk H;clear H
 go_enter Try.func25, Try.ntmps25
 go_wp2_with (first | ((with_reducible refine gate_dst (N := 3) rfl ?_); refine bv 3 #[.int .i64 a0_0, .slice A0_1 l0_1.length c0_1] 25 ?_; intro gb136 hg w4 hbox hb; have BK136 := Aside0.mk (hbox); have GW136 := gw HB hg; have GE136 := gw HB hg; replace HB := hbb HB hb; clear hb hbox hg))
 go_loopg [7] k (fun kq v7 w' => ∃ (x7_1 : Int), v7 = .int .i64 x7_1 ∧ Aside0 (spec_l9At.l0 kq a1 a2 x7_1 a0_0 l0_1 = some r) ∧ Aside0 (kq ≤ k) ∧ Aside0 (w'.heap[gb136]? = some (.cells #[.int .i64 a0_0, (.slice A0_1 l0_1.length c0_1)] 25 (0, 0))) ∧ Aside0 (Below w.heap.size w w'))
 case atStart => exact ⟨(0), rs, H', ⟨Nat.le_refl _⟩, ⟨bl BK136.out⟩, ⟨by exact bb HB.out⟩⟩
 case round =>
  clear H';try clear c2
  try clear p2
  obtain ⟨x7_1, rfl, HA, HK1, BK136, HB⟩ := hrel
  cases gk with
  | zero => exact absurd HA.out (by simp [spec_l9At.l0])
  | succ k1 =>
   have H := HA.out;clear HA;simp only [spec_l9At.l0] at H
   by_cases c5 : x7_1 < (l0_1.length : Int)
   ·rw [if_pos c5] at H;have c5b0 : decide (x7_1 < (l0_1.length : Int)) = true := decide_eq_true c5;clear c5;have HC6 := Aside0.mk H;clear H;obtain ⟨hcz7_0, hcz7_1, hfz7_0, hfz7_1⟩ := c2 BK136
    go_upto_region 4 with (fail)
    go_cut [32] (fun v32 wc => ∃ (kq : Nat) (x32_5 : Bool), v32 = .bool x32_5 ∧ Aside0 (spec_l9At.j1 kq a1 a2 x7_1 x32_5 a0_0 l0_1 = some r) ∧ Aside0 (kq ≤ k1) ∧ Aside0 (wc.heap[gb136]? = some (.cells #[.int .i64 a0_0, (.slice A0_1 l0_1.length c0_1)] 25 (0, 0))) ∧ Aside0 (Below w.heap.size w wc))
    case first =>
     have H := HC6.out;clear HC6
     by_cases c8 : 0 ≤ x7_1
     ·rw [if_pos c8] at H;have c8b0 : decide (0 ≤ x7_1) = true := decide_eq_true c8;clear c8;(first | rw [c8b0] | (simp only [i64_w, i32_w]; rw [c8b0]) | skip)
      by_cases c9 : ((rd_T38 l0_1 x7_1).f0) = a1
      ·rw [if_pos c9] at H;have c9b0 : (((rd_T38 l0_1 x7_1).f0) == a1) = true := beq_iff_eq.mpr c9;have c9b1 : (((rd_T38 l0_1 x7_1).f0) != a1) = false := bne_eq_false_iff_eq.mpr c9;clear c9;have H' := Aside0.mk H;clear H;obtain ⟨hcz10_0, hcz10_1, hfz10_0, hfz10_1⟩ := c2 BK136;have p137 : 0 ≤ (x7_1 : Int) := of_decide_eq_true am;have q137 : x7_1 < (l0_1.length : Int) := of_decide_eq_true am;obtain ⟨ad137, e137, hx137_0, hx137_1, hx137_2, hx137_3⟩ := at_T38 HR0_1.out x7_1 p137 q137;cases e137;replace hx137_0 := (HB.out.cell (World.block_lt_of_cell? w _ hx137_0)).trans hx137_0;replace hx137_1 := (HB.out.cell (World.block_lt_of_cell? w _ hx137_1)).trans hx137_1;replace hx137_2 := (HB.out.cell (World.block_lt_of_cell? w _ hx137_2)).trans hx137_2;replace hx137_3 := (HB.out.cell (World.block_lt_of_cell? w _ hx137_3)).trans hx137_3;replace p137 := eq_true p137;replace q137 := eq_true q137;have p138 : 0 ≤ (x7_1 : Int) := of_decide_eq_true am;have q138 : x7_1 < (l0_1.length : Int) := of_decide_eq_true am;obtain ⟨ad138, e138, hx138_0, hx138_1, hx138_2, hx138_3⟩ := at_T38 HR0_1.out x7_1 p138 q138;obtain rfl : ad137 = ad138 := (by injection e138);replace hx138_0 := (HB.out.cell (World.block_lt_of_cell? w _ hx138_0)).trans hx138_0;replace hx138_1 := (HB.out.cell (World.block_lt_of_cell? w _ hx138_1)).trans hx138_1;replace hx138_2 := (HB.out.cell (World.block_lt_of_cell? w _ hx138_2)).trans hx138_2;replace hx138_3 := (HB.out.cell (World.block_lt_of_cell? w _ hx138_3)).trans hx138_3;replace p138 := eq_true p138;replace q138 := eq_true q138;go_wp2
       go_meet
       case rel => exact ⟨_, ((((rd_T38 l0_1 x7_1).f1).toList == a2.toList)), rs, H', ⟨by have := HK1.out; first | omega | exact Nat.le_refl _⟩, ⟨bl BK136.out⟩, ⟨by exact bb HB.out⟩⟩
      rw [if_neg c9] at H;have c9b0 : (((rd_T38 l0_1 x7_1).f0) == a1) = false := beq_eq_false_iff_ne.mpr c9;have c9b1 : (((rd_T38 l0_1 x7_1).f0) != a1) = true := bne_iff_ne.mpr c9;have H' := Aside0.mk H;clear H;obtain ⟨hcz11_0, hcz11_1, hfz11_0, hfz11_1⟩ := c2 BK136;have p137 : 0 ≤ (x7_1 : Int) := of_decide_eq_true am;have q137 : x7_1 < (l0_1.length : Int) := of_decide_eq_true am;obtain ⟨ad137, e137, hx137_0, hx137_1, hx137_2, hx137_3⟩ := at_T38 HR0_1.out x7_1 p137 q137;cases e137;replace hx137_0 := (HB.out.cell (World.block_lt_of_cell? w _ hx137_0)).trans hx137_0;replace hx137_1 := (HB.out.cell (World.block_lt_of_cell? w _ hx137_1)).trans hx137_1;replace hx137_2 := (HB.out.cell (World.block_lt_of_cell? w _ hx137_2)).trans hx137_2;replace hx137_3 := (HB.out.cell (World.block_lt_of_cell? w _ hx137_3)).trans hx137_3;replace p137 := eq_true p137;replace q137 := eq_true q137;go_wp2
      go_meet
      case rel => exact ⟨_, (false), rs, H', ⟨by have := HK1.out; first | omega | exact Nat.le_refl _⟩, ⟨bl BK136.out⟩, ⟨by exact bb HB.out⟩⟩
     rw [if_neg c8] at H;exact absurd H (by simp)
    case rest =>
     clear HC6;(try clear p1);(try clear q1);(try clear hx1);(try clear c2);(try clear p2);(try clear c5);(try clear c5b0);(try clear c8);(try clear c8b0);(try clear c9);(try clear c9b0);(try clear c9b1);(try clear hcz10_0);(try clear hcz10_1);(try clear hcz11_0);(try clear hcz11_1);(try clear hcz7_0);(try clear hcz7_1);(try clear hfz10_0);(try clear hfz10_1);(try clear hfz11_0);(try clear hfz11_1);(try clear hfz7_0);(try clear hfz7_1);(try clear hx137_0);(try clear hx137_1);(try clear hx137_2);(try clear hx137_3);(try clear hx138_0);(try clear hx138_1);(try clear hx138_2);(try clear hx138_3);(try clear p137);(try clear p138);(try clear p2);(try clear q137);(try clear q138);obtain ⟨kq, x32_5, rfl, HA, HJ5, BK136, HB⟩ := hcut
     cases kq with
     | zero => exact absurd HA.out (by simp [spec_l9At.j1])
     | succ kj5 =>
      have H := HA.out;clear HA;simp only [spec_l9At.j1] at H
      by_cases c12 : x32_5 = true
      ·subst c12;rw [if_pos rfl] at H;obtain rfl := Option.some.inj H;go_wp2;go_ret;exact ⟨by first | rfl | (simp [errW_none, errW_some] <;> rfl) | (simp [*, errW_none, errW_some] <;> rfl), by exact bb HB.out⟩
      replace c12 := Bool.eq_false_iff.mpr c12;subst c12;rw [if_neg (show ¬ (false = true) by decide)] at H;have H' := Aside0.mk H;clear H;go_wp2
      go_roundg kj5
      case measure => have := HK1.out; have := HJ5.out; omega
      case rel => exact ⟨(wrap64 (x7_1 + 1)), rs, H', ⟨by have := HK1.out; have := HJ5.out; omega⟩, ⟨bl BK136.out⟩, ⟨by exact bb HB.out⟩⟩
   rw [if_neg c5] at H;have c5b0 : decide (x7_1 < (l0_1.length : Int)) = false := decide_eq_false c5;clear c5;obtain rfl := Option.some.inj H;obtain ⟨hcz13_0, hcz13_1, hfz13_0, hfz13_1⟩ := c2 BK136;go_wp2;go_ret;exact ⟨by first | rfl | (simp [errW_none, errW_some] <;> rfl) | (simp [*, errW_none, errW_some] <;> rfl), by exact bb HB.out⟩
end Go.Proofs.Ytoohbmoljdfbjaa.P
