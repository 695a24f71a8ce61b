/- spec.l14Spoil: the walk. -/
import Derived.Test.YtagdiodhdnebaaaDoorOp
import Derived.Test.YtagdiodhdnebaaaDoorPx0
set_option linter.unusedVariables false
set_option linter.unusedSimpArgs false
namespace Go.Proofs.YtagdiodhdnebaaaDoor.P
open Go.RowKit Go.Proofs.YtagdiodhdnebaaaDoorW.PrintWords Go.Proofs.YtagdiodhdnebaaaDoorW.PrintLast Go.Proofs.YtagdiodhdnebaaaDoorW.PrintMore
def spoilL (s : ByteArray) (n : Int) : List Int := (bytesOf s).set (n % 4096 % (s.size : Int)).toNat (Go.bits .xor .u8 ((bytesOf s).getD (n % 4096 % (s.size : Int)).toNat 0) ((1 + n / 4096 % 255) % 256))
def spec_l14Spoil.f (a0 : Int) (a1 : ByteArray) (a2 : Bool) (a3 : Int) : Option (Int × ByteArray × Bool) := if 1 ≤ a1.size ∧ a1.size ≤ 1099511627776 ∧ 0 ≤ a3 ∧ a3 < 4611686018427387904 then some (a0, strOfNums (spoilL a1 a3), true) else none
theorem OpenB.cell_at {w : World} {base g c n : Nat} {xs : List Int} (h : OpenB w base (.slice (some ⟨g, 0, none⟩) n c) xs) (k : Nat) (hk : k < xs.length) : w.cell? ⟨g, k, none⟩ = some (.int .u8 (xs.getD k 0)) ∧ w.frozen? ⟨g, k, none⟩ = false := by
  obtain ⟨g', cap, cur, fz, hv, hb, hg, hfz, hnc, hcm, hcs, htake⟩ := h
  injection hv with h1 h2 h3
  obtain rfl : g = g' := by simpa using h1
  refine ⟨?_, ?_⟩
  · rw [cell_of_row w g k cur 5 fz hg]
    have hu : (xs.map (Value.int .u8))[k]? = some (.int .u8 (xs.getD k 0)) := by simp [hk]
    rw [← htake, List.getElem?_take, if_pos hk] at hu
    simpa using hu
  · obtain ⟨lo, hi'⟩ := fz
    simp only [World.frozen?, hg, Bool.and_eq_false_iff, decide_eq_false_iff_not]
    simp only at hfz
    omega
theorem OpenB.set {w : World} {base g c n : Nat} {xs : List Int} (h : OpenB w base (.slice (some ⟨g, 0, none⟩) n c) xs) (k : Nat) (hk : k < xs.length) (x : Int) : OpenB (w.setCell ⟨g, k, none⟩ (.int .u8 x)) base (.slice (some ⟨g, 0, none⟩) n c) (xs.set k x) := by
  obtain ⟨g', cap, cur, fz, hv, hb, hg, hfz, hnc, hcm, hcs, htake⟩ := h
  injection hv with h1 h2 h3
  obtain rfl : g = g' := by simpa using h1
  refine ⟨g, cap, cur.setIfInBounds k (.int .u8 x), fz, by rw [h2, h3, List.length_set], hb, ?_, hfz, by rw [List.length_set]; exact hnc, hcm, by simpa using hcs, ?_⟩
  · rw [setCell_eq_setRow w g k cur 5 fz _ hg]
    exact setRow_heap w g cur _ 5 fz hg
  · rw [List.length_set, Array.toList_setIfInBounds, List.take_set, htake, List.map_set]
theorem OpenB.string {w : World} {base g c : Nat} {xs : List Int} (h : OpenB w base (.slice (some ⟨g, 0, none⟩) xs.length c) xs) : (convert 34 9 (.slice (some ⟨g, 0, none⟩) xs.length c)).run Tryd.prog w = .ok (.string (strOfNums xs)) w :=
  run_convert_bytes_arg w 34 5 Tryd.underlying34 Tryd.underlying5 g 0 xs.length c xs rfl (fun i hi => by rw [Nat.zero_add]; exact (h.cell_at i hi).1) 9 Tryd.underlying9
theorem OpenB.string' {w : World} {base g c n : Nat} {xs : List Int} (h : OpenB w base (.slice (some ⟨g, 0, none⟩) n c) xs) (hn : xs.length = n) : (convert 34 9 (.slice (some ⟨g, 0, none⟩) n c)).run Tryd.prog w = .ok (.string (strOfNums xs)) w := by
  subst hn
  exact h.string
theorem info61s : (Tryd.prog.info? 61).map (·.size) = some 3 := by kernel_rfl
theorem open_store {P : Program} {w0 W : World} {ops : Array Oper} {rest : List Oper} {o : Oper} {a : Act} {Q : Exit → Act → World → Prop} (base : Nat) (hgd : o.guard = none) (x y : Operand) (ho : o.op = .store 5 x y)
    {g c n k : Nat} {xs : List Int} {z : Int} (hx : a.eval x = .pointer (some ⟨g, k, none⟩)) (hy : a.eval y = .int .u8 z) (hinfo : (P.info? 5).map (fun i => (i.zero, i.size, i.bytes)) = some (some (.int .u8 0), 1, 1))
    (HO : OpenB W base (.slice (some ⟨g, 0, none⟩) n c) xs) (hk : k < xs.length) (HB : Below base w0 W)
    (h : ∀ w1, OpenB w1 base (.slice (some ⟨g, 0, none⟩) n c) (xs.set k z) → Below base w0 w1 → wpList P ops Q rest (a.put o.dst undef) w1) : wpList P ops Q (o :: rest) a W := by
  obtain ⟨i0, hi, hzz⟩ := Option.map_eq_some_iff.1 hinfo
  simp only [Prod.mk.injEq] at hzz
  obtain ⟨hz0, hz1, hz2⟩ := hzz
  obtain ⟨h1, h2⟩ := HO.cell_at k hk
  refine wpList_plain hgd fun K hK => ?_
  unfold Oper.wp execOp
  have hadd : (⟨g, k, none⟩ : Addr).add 0 = ⟨g, k, none⟩ := by simp [Addr.add]
  have hst : (storeVar 5 ⟨g, k, none⟩ (.int .u8 z)).run P W = .ok () (W.setCell ⟨g, k, none⟩ (.int .u8 z)) := by
    simp [storeVar, sizeOf, typeInfo, hi, hz1, Value.cells, storeCells, hadd, Result.andThen]
    rw [run_store P W _ _ _ rfl, h1]
    simp [h2]
  simp only [ho, hx, hy, Instr.storeAt, Instr.sureAddr, Sem.run_bind, Sem.run_pure, Result.andThen_ok, hst]
  exact hK _ _ (h _ (HO.set k hk z) (HB.setCell HO.lt.1 _))
set_option maxHeartbeats 4000000 in
set_option maxRecDepth 100000 in
theorem spec_l14Spoil.calls (a0 : Int) (a1 : ByteArray) (a2 : Bool) (a3 : Int) (r1 : Int) (r2 : ByteArray) (r3 : Bool) (w : World) (h : spec_l14Spoil.f a0 a1 a2 a3 = some (r1, r2, r3)) :
    Calls Tryd.prog 53 #[.agg #[.int .i64 a0, .string a1, .bool a2], .int .i64 a3] w fun e w' => e = .returned (.agg #[.int .i64 r1, .string r2, .bool r3]) ∧ Below w.heap.size w w' := by
 unfold spec_l14Spoil.f at h
 split at h
 · rename_i hs
   simp only [Option.some.injEq, Prod.mk.injEq] at h
   obtain ⟨rfl, rfl, rfl⟩ := h
   have HS := Aside0.mk hs
   clear hs
   have hsz : (bytesOf a1).length = a1.size := by simp [bytesOf]
   have HSZ := Aside0.mk hsz
   clear hsz
   have n1 : decide (0 ≤ a3) = true := by have := HS.out; simp; omega
   have n2 : (0 ≤ a3) = True := by have := HS.out; simp; omega
   go_enter Tryd.func53, Tryd.ntmps53
   have hk1 : (a3 % 4096 % (a1.size : Int)).toNat < (bytesOf a1).length := by
    rw [HSZ.out]
    have h1 := HS.out
    have h2 := Int.emod_nonneg (a3 % 4096) (show (a1.size : Int) ≠ 0 by omega)
    have h3 := Int.emod_lt_of_pos (a3 % 4096) (show (0 : Int) < (a1.size : Int) by omega)
    omega
   have HK1 := Aside0.mk hk1
   have q1 : (0 ≤ a3 % 4096 % (a1.size : Int)) = True := by
    have h1 := HS.out
    have h2 := Int.emod_nonneg (a3 % 4096) (show (a1.size : Int) ≠ 0 by omega)
    simp
    omega
   have q2 : (a3 % 4096 % (a1.size : Int) < (a1.size : Int)) = True := by
    have h1 := HS.out
    have h3 := Int.emod_lt_of_pos (a3 % 4096) (show (0 : Int) < (a1.size : Int) by omega)
    simp
    omega
   clear hk1
   have z1 : (a1.size = 0) = False := by have := HS.out; simp only [eq_iff_iff, iff_false]; omega
   have z2 : ((a1.size : Int) = 0) = False := by have := HS.out; simp only [eq_iff_iff, iff_false]; omega
   have z3 : ((a1.size : Int) == 0) = false := by have := HS.out; rw [beq_eq_false_iff_ne]; omega
   have z4 : (a1 = ByteArray.empty) = False := by
    have := HS.out
    simp only [eq_iff_iff, iff_false]
    intro e
    rw [e] at this
    exact absurd this.1 (by decide)
   have hm1 : Int.tmod a3 4096 = a3 % 4096 := Int.tmod_eq_emod_of_nonneg HS.out.2.2.1
   go_wp2_with (first | ((with_reducible refine gate_dst (N := 9) rfl ?_); (generalize hW1 : (w.alloc (Obj.cells _ 61)).alloc (Obj.cells _ 61) = W1); have HW1 := Aside0.mk hW1; have c10 : W1.cell? ⟨w.heap.size, 0, none⟩ = some (.int .i64 a0) := (by rw [← hW1]; simp [World.cell?, heap_alloc2_old]); have c11 : W1.heap[w.heap.size + 1]? = some (.cells #[.int .i64 0, .string ⟨#[]⟩, .bool false] 61 (0, 0)) := (by rw [← hW1]; exact heap_alloc2_new _ _ _); clear hW1; have HB := Aside0.mk (Below.refl W1.heap.size W1); refine open_conv (w0 := W1) W1.heap.size rfl (.tmp 8) 9 34 rfl a1 rfl Tryd.underlying9 Tryd.underlying34 Tryd.underlying5 (by have := HS.out; simp only [maxLen]; omega) HB.out (by simp) ?_; intro v1 w1 ho1 hb1; clear HB; have HB := Aside0.mk hb1; obtain ⟨g, c, hv, hc, hg1, hg2, hcm, hrd⟩ := ho1.reads; subst hv; clear hc hg1 hg2 hcm hrd hb1; rw [HSZ.out] at ho1 ⊢; have HO := Aside0.mk ho1; obtain ⟨ec, ef⟩ := ho1.cell_at _ HK1.out; clear ho1) | (refine open_store (w0 := W1) W1.heap.size rfl (.tmp 27) (.tmp 26) rfl rfl rfl info5 HO.out HK1.out HB.out ?_; clear ec ef HO HB; intro w2 ho2 hb2; have hcv := ho2.string' (by rw [List.length_set, HSZ.out]); have HB2 := Aside0.mk hb2; have e0 : w2.cell? ⟨w.heap.size, 0, none⟩ = some (.int .i64 a0) := (hb2.cell (World.block_lt_of_cell? W1 _ c10)).trans c10; have hb1 : w2.heap[w.heap.size + 1]? = some (.cells #[.int .i64 0, .string ⟨#[]⟩, .bool false] 61 (0, 0)) := (hb2.block _ (by rw [← HW1.out]; simp)).trans c11; have HB1 := Aside0.mk hb1; clear hb1 ho2 hb2 c10 c11) | (refine wpList_store_row rfl 61 (.tmp 4) (.tmp 32) rfl (w.heap.size + 1) _ rfl rfl 61 _ HB1.out info61s rfl (by simp [Value.oneCell']) ?_))
   refine bodyPost_ret (results_cell_row rfl _ _ (w.heap.size + 1) 61 _ (0, 0) _ rfl (setRow_heap _ _ _ _ _ _ HB1.out) Tryd.underlying61 rfl info61s) rfl ?_
   have hb0 : Below w.heap.size w W1 := by rw [← HW1.out]; exact below_alloc (below_alloc (Below.refl _ _) _) _
   have hb2 : Below w.heap.size W1 w2 := HB2.out.mono (by rw [← HW1.out]; simp; omega)
   refine ⟨?_, (hb0.trans hb2).trans ⟨rfl, rfl, rfl, by simp, fun k hk => setRow_other _ _ _ _ (by omega)⟩⟩
   have e1 : wrap64 (Int.tdiv a3 4096) = a3 / 4096 := by
    have := HS.out
    rw [Int.tdiv_eq_ediv_of_nonneg (by omega)]
    unfold wrap64
    omega
   have e2 : wrap64 (1 + Int.tmod (a3 / 4096) 255) = 1 + a3 / 4096 % 255 := by
    have := HS.out
    rw [Int.tmod_eq_emod_of_nonneg (by omega)]
    unfold wrap64
    omega
   rw [e1, e2]
   rfl
 · cases h
theorem field61 (a : Int) (b : ByteArray) (c : Bool) (w : World) : (Instr.field 61 (.agg #[.int .i64 a, .string b, .bool c]) 1).run Tryd.prog w = .ok (.string b) w := by
  have h := Tryd.underlying61
  have h9 : (Tryd.prog.info? 9).map (·.size) = some 1 := by kernel_rfl
  obtain ⟨i, hi, hs⟩ := Option.map_eq_some_iff.1 h9
  simp [Instr.field, run_underlying h, asAgg, part, sizeOf, typeInfo, hi, hs, Result.andThen]
end Go.Proofs.YtagdiodhdnebaaaDoor.P
