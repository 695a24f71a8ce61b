/- A row of bytes that '[]byte(s)' made, and what is appended to it: the block may bear a conversion's mark behind its cells. -/
import Derived.Test.YtagdiodhdnebaaaDoorShaDef
set_option linter.unusedVariables false
set_option linter.unusedSimpArgs false
namespace Go.Proofs.YtagdiodhdnebaaaDoor.P
open Go.RowKit Go.Proofs.YtagdiodhdnebaaaDoorW.PrintWords Go.Proofs.YtagdiodhdnebaaaDoorW.PrintMore
def OpenB (w : World) (base : Nat) (v : Value) (xs : List Int) : Prop :=
  ∃ g cap cur fz, v = .slice (some ⟨g, 0, none⟩) xs.length cap ∧ base ≤ g ∧ w.heap[g]? = some (.cells cur 5 fz) ∧ (fz.2 ≤ 0 ∨ cap ≤ fz.1) ∧ xs.length ≤ cap ∧ cap ≤ maxLen ∧ cur.size = cap ∧ cur.toList.take xs.length = xs.map (.int .u8)
theorem OpenB.lt {w : World} {base g c n : Nat} {xs : List Int} (h : OpenB w base (.slice (some ⟨g, 0, none⟩) n c) xs) : base ≤ g ∧ g < w.heap.size := by
  obtain ⟨g', cap, cur, fz, hv, hb, hg, _⟩ := h
  injection hv with h1 h2 h3
  obtain rfl : g = g' := by simpa using h1
  exact ⟨hb, (Array.getElem?_eq_some_iff.1 hg).1⟩
theorem OpenB.alloc {w : World} {base : Nat} {v : Value} {xs : List Int} (h : OpenB w base v xs) (o : Obj) : OpenB (w.alloc o) base v xs := by
  obtain ⟨g, cap, cur, fz, hv, hb, hg, r⟩ := h
  exact ⟨g, cap, cur, fz, hv, hb, (Below.heap_alloc w o g (Array.getElem?_eq_some_iff.1 hg).1).trans hg, r⟩
theorem OpenB.drew {w : World} {base : Nat} {v : Value} {xs : List Int} (h : OpenB w base v xs) : OpenB w.drew base v xs := h
theorem OpenB.below {w w1 : World} {base : Nat} {v : Value} {xs : List Int} (h : OpenB w base v xs) (hb1 : Below w.heap.size w w1) : OpenB w1 base v xs := by
  obtain ⟨g, cap, cur, fz, hv, hb, hg, r⟩ := h
  exact ⟨g, cap, cur, fz, hv, hb, (hb1.block g (Array.getElem?_eq_some_iff.1 hg).1).trans hg, r⟩
theorem bytesOf_cells (s : ByteArray) : (s.data.map fun b => Value.int .u8 b.toNat).toList = (bytesOf s).map (.int .u8) := by simp [bytesOf]
theorem OpenB.conv (w : World) (base : Nat) (s : ByteArray) (hs : s.size ≤ maxLen) (hb : base ≤ w.heap.size) : OpenB (Lib.bytesWorld w 5 s) base (.slice (some ⟨w.heap.size, 0, none⟩) s.size (grownCap w s.size 0 5)) (bytesOf s) := by
  have hl : (bytesOf s).length = s.size := by simp [bytesOf]
  have hge := grownCap_ge w s.size 0 5
  have hsz : (Lib.bytesCells w 5 s).size = grownCap w s.size 0 5 := by
    have : s.data.size = s.size := rfl
    simp [Lib.bytesCells, this]
    omega
  refine ⟨w.heap.size, grownCap w s.size 0 5, Lib.bytesCells w 5 s, _, by rw [hl], hb, Lib.bytesWorld_at_new w 5 s, .inr (by rw [hsz]; exact Nat.le_refl _), by rw [hl]; exact hge, grownCap_le_maxLen w s.size 0 5 hs, hsz, ?_⟩
  have h2 : (Lib.bytesCells w 5 s).toList = (bytesOf s).map (.int .u8) ++ (Array.replicate (grownCap w s.size 0 5 - s.size) (Value.int .u8 0)).toList := by
    simp only [Lib.bytesCells, Array.toList_append, bytesOf_cells]
  rw [h2]
  exact List.take_left' (by simp)
theorem below_bytesWorld (w : World) (s : ByteArray) : Below w.heap.size w (Lib.bytesWorld w 5 s) :=
  ⟨rfl, rfl, rfl, by rw [Lib.bytesWorld_size]; omega, fun k hk => Lib.bytesWorld_at_old w 5 s k hk⟩
/-- '[]byte(s)', in the walk. -/
theorem open_conv {P : Program} {w0 W : World} {ops : Array Oper} {rest : List Oper} {o : Oper} {a : Act} {Q : Exit → Act → World → Prop} (base : Nat) (hgd : o.guard = none) (x : Operand) (s1 t : TypeId) (ho : o.op = .convert s1 t x)
    (s : ByteArray) (hx : a.eval x = .string s) {u : TypeDesc} (h1 : P.underlying s1 = some u) (h2 : P.underlying t = some (.slice 5)) (h3 : P.underlying 5 = some (.int .u8)) (hs : s.size ≤ maxLen) (HB : Below base w0 W) (hb : base ≤ W.heap.size)
    (h : ∀ v w1, OpenB w1 base v (bytesOf s) → Below base w0 w1 → wpList P ops Q rest (a.put o.dst v) w1) : wpList P ops Q (o :: rest) a W := by
  refine Kd.event_run hgd (v := .slice (some ⟨W.heap.size, 0, none⟩) s.size (grownCap W s.size 0 5)) (w1 := Lib.bytesWorld W 5 s) ?_ (h _ _ (OpenB.conv W base s hs hb) (HB.trans ((below_bytesWorld W s).mono hb)))
  have := Lib.run_convert_string_bytes (P := P) W s1 t 5 s h1 h2 h3
  simp [execOp, ho, hx, this, Result.andThen]
theorem run_storeCell_open (P : Program) (g n : Nat) (fz : Nat × Nat) (v : Value) (cur : Array Value) (w : World) (hg : w.heap[g]? = some (.cells cur 5 fz)) (hfz : fz.2 ≤ 0 ∨ cur.size ≤ fz.1) (hn : n < cur.size) (h1 : v.oneCell' = true) :
    (storeCells ⟨g, n, none⟩ [v] 0).run P w = .ok () (w.setRow g (cur.setIfInBounds n v)) := by
  have hadd : (⟨g, n, none⟩ : Addr).add 0 = ⟨g, n, none⟩ := by simp [Addr.add]
  have hcell : w.cell? ⟨g, n, none⟩ = some cur[n] := by simp [World.cell?, hg, hn]
  have hfro : w.frozen? ⟨g, n, none⟩ = false := by
    obtain ⟨lo, hi'⟩ := fz
    simp only [World.frozen?, hg, Bool.and_eq_false_iff, decide_eq_false_iff_not]
    simp only at hfz
    omega
  have hst : (store ((⟨g, n, none⟩ : Addr).add 0) v).run P w = .ok () (w.setRow g (cur.setIfInBounds n v)) := by
    rw [hadd, run_store P w _ v _ h1, hcell]
    simp [hfro, setCell_eq_setRow w g n cur 5 fz v hg]
  simp only [storeCells, Sem.run_bind, hst, Result.andThen_ok]
  rfl
theorem run_append_open (P : Program) (w : World) (base : Nat) (t ty : TypeId) (i : TypeInfo) (ht : P.underlying t = some (.slice 5)) (hi : P.info? 5 = some i) (hz : i.zero = some (.int .u8 0)) (hsize : i.size = 1) (hby : i.bytes = 1)
    (v : Value) (xs : List Int) (hown : OpenB w base v xs) (ad : Addr) (c : Nat) (y : Int) (hy : w.cell? ad = some (.int .u8 y)) (hl : xs.length + 1 ≤ 140737488355328) (hbase : base ≤ w.heap.size) :
    ∃ v' w', (Builtin.append_ #[t, t] ty #[v, .slice (some ad) 1 c]).run P w = .ok v' w' ∧ OpenB w' base v' (xs ++ [y]) ∧ w.grownBy w' v.ownBlock := by
  obtain ⟨g, cap, cur, fz, rfl, hbg, hg, hfz, hnc, hcm, hcs, htake⟩ := hown
  have hf0 : ∀ j u, [Value.int .u8 y][j]? = some u → w.cell? (ad.add j) = some u := by
    intro j u hu
    rcases j with _ | j
    · obtain rfl : Value.int .u8 y = u := by simpa using hu
      have : ad.add 0 = ad := by unfold Addr.add; split <;> simp_all
      rw [this]; exact hy
    · simp at hu
  by_cases hroom : xs.length + 1 ≤ cap
  · have hf := run_firstCells_some (P := P) w 1 1 ad 1 c [.int .u8 y] rfl hf0
    have hst := run_storeCell_open P g xs.length fz (.int .u8 y) cur w hg (by rw [hcs]; exact hfz) (by omega) rfl
    refine ⟨.slice (some ⟨g, 0, none⟩) (xs.length + 1) cap, w.setRow g (cur.setIfInBounds xs.length (.int .u8 y)), ?_, ⟨g, cap, cur.setIfInBounds xs.length (.int .u8 y), fz, by simp, hbg, setRow_heap w g cur _ 5 _ hg, hfz, by simpa using hroom, hcm, by simpa using hcs, ?_⟩, ⟨rfl, rfl, rfl, by simp, fun k _ hk => setRow_other w g k _ (fun e => hk (by simp [Value.ownBlock, e]))⟩⟩
    · simp [Builtin.append_, run_underlying ht, sizeOf, typeInfo, hi, hsize, Builtin.lenOf, hroom, hf, Addr.add_lit, hst]
    · simp only [Array.toList_setIfInBounds, List.length_append, List.length_singleton, List.map_append, List.map_cons, List.map_nil]
      rw [List.take_add_one, List.take_set_of_le (Nat.le_refl _), htake]
      simp [hcs, show xs.length < cap by omega]
  · have holds : ∀ j u, (xs.map (Value.int .u8))[j]? = some u → w.cell? ((⟨g, 0, none⟩ : Addr).add j) = some u := by
      intro j u hu
      have hadd : (⟨g, 0, none⟩ : Addr).add j = ⟨g, j, none⟩ := by unfold Addr.add; split <;> simp_all
      rw [hadd, cell_of_row w g j cur 5 fz hg]
      rw [← htake, List.getElem?_take] at hu
      split at hu
      · simpa using hu
      · cases hu
    have hr := run_append_grow (P := P) w t ty 5 i (.int .u8 0) ht hi hz ⟨g, 0, none⟩ xs.length cap (xs.map (.int .u8)) (by rw [hsize]; simp) holds ad 1 c [.int .u8 y] (by rw [hsize]; rfl) hf0 (by omega) (by omega) (by rw [hby]; exact growslice_fits (by omega) (by omega))
    have hge := grownCap_ge w (xs.length + 1) cap 5
    have hcm2 : grownCap w (xs.length + 1) cap 5 ≤ maxLen := grownCap_le_maxLen w (xs.length + 1) cap 5 (by simp only [maxLen]; omega)
    refine ⟨_, _, hr, ⟨w.heap.size, _, _, (0, 0), by simp, hbase, heap_alloc_new w.drew _, .inl (Nat.le_refl _), by simpa using hge, hcm2, ?_, ?_⟩, ⟨rfl, rfl, rfl, by simp, fun k hk _ => Below.heap_alloc w.drew _ k hk⟩⟩
    · have hz1 : (Value.int IntKind.u8 0).cells.size = 1 := rfl
      simp only [Array.size_append, List.size_toArray, size_zeroCells, hz1, List.length_map, List.length_singleton]
      omega
    · simp only [Array.toList_append, List.map_append, List.map_cons, List.map_nil]
      exact List.take_left' (by simp)
/-- 'append(b, x)', in the walk. -/
theorem open_append {P : Program} {w0 W : World} {ops : Array Oper} {rest : List Oper} {o : Oper} {a : Act} {Q : Exit → Act → World → Prop} (base : Nat) (hgd : o.guard = none) (s x : Operand) (t : TypeId) (ho : o.op = .call { callee := .builtin .append, args := #[s, x], argTypes := #[t, t] })
    (ht : P.underlying t = some (.slice 5)) (hinfo : (P.info? 5).map (fun i => (i.zero, i.size, i.bytes)) = some (some (.int .u8 0), 1, 1)) (v : Value) (xs : List Int) (y : Int) (hs : a.eval s = v) (hx : a.eval x = .slice (some ⟨W.heap.size, 0, none⟩) 1 1)
    (HO : OpenB W base v xs) (HB : Below base w0 W) (hbase : base ≤ W.heap.size) (hl : xs.length + 1 ≤ 140737488355328)
    (h : ∀ v1 w1, OpenB w1 base v1 (xs ++ [y]) → Below base w0 w1 → wpList P ops Q rest (a.put o.dst v1) w1) : wpList P ops Q (o :: rest) a (W.alloc (.cells #[.int .u8 y] 5)) := by
  obtain ⟨i0, hi, hzz⟩ := Option.map_eq_some_iff.1 hinfo
  simp only [Prod.mk.injEq] at hzz
  obtain ⟨hz0, hz1, hz2⟩ := hzz
  have hown : ∀ k, v.ownBlock = some k → base ≤ k := by
    obtain ⟨g, cap, cur, fz, rfl, hbg, _⟩ := HO
    intro k hk
    simp [Value.ownBlock] at hk
    omega
  refine wpList_plain hgd fun K hK => ?_
  obtain ⟨v', w', hr, h2, h3⟩ := run_append_open P (W.alloc (.cells #[.int .u8 y] 5)) base t o.type i0 ht hi hz0 hz1 hz2 v xs (HO.alloc _) ⟨W.heap.size, 0, none⟩ 1 y ((cell_of_row _ W.heap.size 0 _ 5 (0, 0) (heap_alloc_new W _)).trans rfl) hl (by simp; omega)
  unfold Oper.wp execOp
  simp only [ho, resolve, invoke, builtin, Sem.run_bind, Sem.run_pure, Result.andThen_ok, List.map_toArray, List.map_cons, List.map_nil, hs, hx, hr]
  exact hK _ _ (h v' w' h2 ((HB.alloc hbase _).grown h3 (by simp; omega) hown))
theorem OpenB.reads {w : World} {base : Nat} {v : Value} {xs : List Int} (h : OpenB w base v xs) : ∃ g c, v = .slice (some ⟨g, 0, none⟩) xs.length c ∧ xs.length ≤ c ∧ base ≤ g ∧ g < w.heap.size ∧ c ≤ maxLen ∧ ∀ W' : World, W'.heap[g]? = w.heap[g]? → (Kd.int .u8).C W' (some ⟨g, 0, none⟩) xs.length xs := by
  obtain ⟨g, cap, cur, fz, rfl, hbg, hg, hfz, hnc, hcm, hcs, htake⟩ := h
  refine ⟨g, cap, rfl, hnc, hbg, (Array.getElem?_eq_some_iff.1 hg).1, hcm, fun W' hW => ⟨rfl, by simp only [maxLen] at hcm; omega, fun _ => ⟨_, rfl, fun j p hj => ⟨[.int .u8 p], rfl, rfl, fun i u hu => ?_⟩⟩⟩⟩
  rcases i with _ | i
  · obtain rfl : Value.int .u8 p = u := by simpa using hu
    have hadd : (⟨g, 0, none⟩ : Addr).add (j * (Kd.int .u8).sz + 0) = ⟨g, j, none⟩ := by
      show (⟨g, 0, none⟩ : Addr).add (j * 1 + 0) = _
      unfold Addr.add; split <;> simp_all
    rw [hadd, cell_of_row W' g j cur 5 fz (hW.trans hg)]
    have hu : (xs.map (Value.int .u8))[j]? = some (.int .u8 p) := by simp [hj]
    rw [← htake, List.getElem?_take] at hu
    split at hu
    · simpa using hu
    · cases hu
  · simp at hu
theorem OpenB.view {w : World} {base b : Nat} {v : Value} {xs : List Int} {ok : Nat → Prop} (h : OpenB w base v xs) (hok : ∀ k, base ≤ k → ok k) : Kd.V (Kd.int .u8) 5 w b ok v xs := by
  obtain ⟨g, c, rfl, hc, hb, hg, _, hr⟩ := h.reads
  exact ⟨_, c, rfl, hc, fun W' hW => hr W' (hW g (hok g hb) hg)⟩
end Go.Proofs.YtagdiodhdnebaaaDoor.P
