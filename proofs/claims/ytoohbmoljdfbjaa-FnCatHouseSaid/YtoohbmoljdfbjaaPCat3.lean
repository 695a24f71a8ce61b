/- Plain law of the catalogue, third part: taking out, putting in, sorting. -/
import Derived.Test.YtoohbmoljdfbjaaPCat2
set_option linter.unusedVariables false
set_option linter.unusedSimpArgs false
namespace Go.Proofs.Ytoohbmoljdfbjaa.P
open Go.RowKit Go.Proofs.YtoohbmoljdfbjaaW.PrintWords Go.Proofs.YtoohbmoljdfbjaaW.PrintMore
open Go.Sort (insertionSort)
theorem lt2_iff (x y : S38) : ltOf orderI x y = true ↔ lt2 x y := order_lt x y
theorem lt2_trans {x y z : S38} (h1 : lt2 x y) (h2 : lt2 y z) : lt2 x z := (lt2_iff _ _).1 (order_swo.trans _ _ _ ((lt2_iff _ _).2 h1) ((lt2_iff _ _).2 h2))
theorem lt2_irrefl (x : S38) : ¬ lt2 x x := fun h => by have := (lt2_iff _ _).2 h; rw [order_swo.irrefl] at this; cases this
def sameKey (x y : S38) : Prop := x.f0 = y.f0 ∧ x.f1.toList = y.f1.toList
theorem lt2_tri {x y : S38} (h1 : ¬ lt2 x y) (h2 : ¬ sameKey x y) : lt2 y x := by
  by_cases a : x.f0 < y.f0
  · exact absurd (.inl a) h1
  · by_cases b : y.f0 < x.f0
    · exact .inl b
    · have e : x.f0 = y.f0 := by omega
      have n : ¬ x.f1.toList < y.f1.toList := fun q => h1 (.inr ⟨e, q⟩)
      have ne : ¬ y.f1.toList = x.f1.toList := fun q => h2 ⟨e, q.symm⟩
      rcases List.le_iff_lt_or_eq.1 (List.not_lt.1 n) with q | q
      · exact .inr ⟨e.symm, q⟩
      · exact absurd q ne
structure CatQ (last : Int) (l : List S38) : Prop where
  lastP : 0 ≤ last ∧ last ≤ 99999
  len : l.length ≤ 8
  thing : ∀ x ∈ l, thingP x.f0 x.f1 x.f3 ∧ 1 ≤ x.f2 ∧ x.f2 ≤ last
  order : l.Pairwise lt2
  ed : l.Pairwise (fun x y => x.f2 ≠ y.f2)
  bytes : bytesP l
theorem chain_lt {last : Int} {l : List S38} (h : ∀ j, j < l.length → okAt last l j) : ∀ (d i : Nat), i + d + 1 < l.length → lt2 (gt l i) (gt l (i + d + 1))
  | 0, i, hi => by
    have := (h (i + 1) (by omega)).2.2.1 (by omega)
    simpa using this
  | d + 1, i, hi => by
    have h1 := chain_lt h d i (by omega)
    have h2 := (h (i + (d + 1) + 1) hi).2.2.1 (by omega)
    rw [show i + (d + 1) + 1 - 1 = i + d + 1 by omega] at h2
    exact lt2_trans h1 h2
theorem catP_q {last : Int} {l : List S38} (h : catP last l) : CatQ last l := by
  obtain ⟨h1, h2, h3, h4⟩ := h
  refine ⟨h1, h2, fun x hx => ?_, ?_, ?_, h4⟩
  · obtain ⟨i, hi, rfl⟩ := List.getElem_of_mem hx
    have := h3 i hi
    rw [okAt, gt_at l i hi] at this
    exact ⟨this.1, this.2.1⟩
  · rw [List.pairwise_iff_getElem]
    intro i j hi hj hij
    have := chain_lt h3 (j - i - 1) i (by omega)
    rw [show i + (j - i - 1) + 1 = j by omega, gt_at l i hi, gt_at l j hj] at this
    exact this
  · rw [List.pairwise_iff_getElem]
    intro i j hi hj hij
    have := (h3 j hj).2.2.2 i hij
    rw [gt_at l i hi, gt_at l j hj] at this
    exact this
theorem catQ_p {last : Int} {l : List S38} (q : CatQ last l) : catP last l := by
  refine ⟨q.lastP, q.len, fun j hj => ?_, q.bytes⟩
  have ho := List.pairwise_iff_getElem.1 q.order
  have he := List.pairwise_iff_getElem.1 q.ed
  have ht := q.thing l[j] (List.getElem_mem hj)
  refine ⟨by rw [gt_at l j hj]; exact ht.1, by rw [gt_at l j hj]; exact ht.2, fun h0 => ?_, fun m hm => ?_⟩
  · rw [gt_at l j hj, gt_at l (j - 1) (by omega)]
    exact ho (j - 1) j (by omega) hj (by omega)
  · rw [gt_at l j hj, gt_at l m (by omega)]
    exact he m j (by omega) hj hm
theorem catB_q {last : Int} {l : List S38} : catB last l = true ↔ CatQ last l := catB_true.trans ⟨catP_q, catQ_p⟩
/-! ### bytes -/
theorem bytesN_app (h : Int) (a b : List S38) : bytesN h (a ++ b) = bytesN h a + bytesN h b := by unfold bytesN; rw [List.map_append, List.sum_append]
theorem bytesN_cons (h : Int) (x : S38) (b : List S38) : bytesN h (x :: b) = wt h x + bytesN h b := by unfold bytesN; rw [List.map_cons, List.sum_cons]
theorem split_at (l : List S38) (i : Nat) (hi : i < l.length) : l = l.take i ++ gt l i :: l.drop (i + 1) := by
  rw [gt_at l i hi]
  conv => lhs; rw [← List.take_append_drop i l, List.drop_eq_getElem_cons hi]
theorem bytesN_erase (h : Int) (l : List S38) (i : Nat) (hi : i < l.length) : bytesN h l = bytesN h (l.eraseIdx i) + wt h (gt l i) := by
  conv => lhs; rw [split_at l i hi]
  rw [List.eraseIdx_eq_take_drop_succ, bytesN_app, bytesN_app, bytesN_cons]
  omega
theorem erase_q {last : Int} {l : List S38} (q : CatQ last l) (i : Nat) (hi : i < l.length) : CatQ last (l.eraseIdx i) := by
  have hs := List.eraseIdx_sublist l i
  have b0 := bytesN_erase 0 l i hi
  have b1 := bytesN_erase 1 l i hi
  exact ⟨q.lastP, Nat.le_trans hs.length_le q.len, fun x hx => q.thing x (hs.subset hx), q.order.sublist hs, q.ed.sublist hs, by have := q.bytes.1; omega, by have := q.bytes.2; omega⟩
/-! ### the place of a thing that is put in -/
def insK (l : List S38) (x : S38) : Nat := l.findIdx (fun y => !(ltOf orderI y x))
def insT (l : List S38) (x : S38) : List S38 := l.take (insK l x) ++ x :: l.drop (insK l x)
theorem insK_le (l : List S38) (x : S38) : insK l x ≤ l.length := List.findIdx_le_length
theorem insK_lt (l : List S38) (x : S38) (j : Nat) (hj : j < insK l x) : lt2 (gt l j) x := by
  have h := List.not_of_lt_findIdx hj
  have hl := insK_le l x
  rw [gt_at l j (by omega)]
  rw [← lt2_iff]
  simpa using h
theorem insK_at (l : List S38) (x : S38) (h : insK l x < l.length) : ¬ lt2 (gt l (insK l x)) x := by
  have h1 : (!(ltOf orderI l[insK l x] x)) = true := List.findIdx_getElem (xs := l) (p := fun y => !(ltOf orderI y x)) (w := h)
  rw [gt_at l _ h]
  intro hl
  rw [(lt2_iff _ _).2 hl] at h1
  cases h1
theorem ins_order {l : List S38} (ho : l.Pairwise lt2) (x : S38) (hn : ∀ y ∈ l, ¬ sameKey y x) : (insT l x).Pairwise lt2 := by
  have hk := insK_le l x
  have hg := List.pairwise_iff_getElem.1 ho
  have hx : ∀ y ∈ l.drop (insK l x), lt2 x y := by
    intro y hy
    obtain ⟨m, hm, rfl⟩ := List.getElem_of_mem hy
    rw [List.length_drop] at hm
    rw [List.getElem_drop]
    have hlt : insK l x < l.length := by omega
    have h0 := insK_at l x hlt
    rw [gt_at l _ hlt] at h0
    have h1 := lt2_tri h0 (hn _ (List.getElem_mem hlt))
    by_cases e : m = 0
    · subst e
      simpa using h1
    · exact lt2_trans h1 (hg _ _ hlt (by omega) (by omega))
  have hy : ∀ a ∈ l.take (insK l x), lt2 a x := by
    intro a ha
    obtain ⟨m, hm, rfl⟩ := List.getElem_of_mem ha
    rw [List.length_take] at hm
    have := insK_lt l x m (by omega)
    rw [gt_at l m (by omega)] at this
    rw [List.getElem_take]
    exact this
  unfold insT
  rw [List.pairwise_append]
  refine ⟨ho.sublist (List.take_sublist _ _), List.pairwise_cons.2 ⟨hx, ho.sublist (List.drop_sublist _ _)⟩, fun a ha b hb => ?_⟩
  rcases List.mem_cons.1 hb with rfl | hb
  · exact hy a ha
  · exact lt2_trans (hy a ha) (hx b hb)
theorem insT_perm (l : List S38) (x : S38) : (insT l x).Perm (l ++ [x]) := by
  unfold insT
  have h1 : (l.take (insK l x) ++ x :: l.drop (insK l x)).Perm (x :: (l.take (insK l x) ++ l.drop (insK l x))) := List.perm_middle
  rw [List.take_append_drop] at h1
  exact h1.trans (List.perm_append_comm (l₁ := [x]) (l₂ := l))
theorem mem_tri {l : List S38} (ho : l.Pairwise lt2) {a b : S38} (ha : a ∈ l) (hb : b ∈ l) : a = b ∨ lt2 a b ∨ lt2 b a := by
  obtain ⟨i, hi, rfl⟩ := List.getElem_of_mem ha
  obtain ⟨j, hj, rfl⟩ := List.getElem_of_mem hb
  have hg := List.pairwise_iff_getElem.1 ho
  rcases Nat.lt_trichotomy i j with h | h | h
  · exact .inr (.inl (hg i j hi hj h))
  · subst h; exact .inl rfl
  · exact .inr (.inr (hg j i hj hi h))
theorem sort_ins {l : List S38} (ho : l.Pairwise lt2) (x : S38) (hn : ∀ y ∈ l, ¬ sameKey y x) : sortL (l ++ [x]) = insT l x := by
  obtain ⟨hp, hs⟩ := sort_holds (l ++ [x])
  have hI := ins_order ho x hn
  have hperm : (sortL (l ++ [x])).Perm (l ++ [x]) := by
    have h1 := hp.1
    have h2 := hp.2.2
    unfold sortL
    rw [Array.toList_extract, Array.toList_extract, List.extract_eq_take_drop, List.extract_eq_take_drop, List.drop_zero, List.drop_zero, Nat.sub_zero, List.take_of_length_le (by rw [Array.length_toList, h1]; exact Nat.le_refl _), List.take_of_length_le (by rw [Array.length_toList]; exact Nat.le_refl _)] at h2
    exact h2
  refine List.Perm.eq_of_pairwise (le := fun a b => ¬ lt2 b a) ?_ ?_ ?_ (hperm.trans (insT_perm l x).symm)
  · intro a b ha hb h1 h2
    have ha' : a ∈ insT l x := (hperm.trans (insT_perm l x).symm).subset ha
    rcases mem_tri hI ha' hb with h | h | h
    · exact h
    · exact absurd h h2
    · exact absurd h h1
  · rw [List.pairwise_iff_getElem]
    intro i j hi hj hij hlt
    have hlen : (sortL (l ++ [x])).length = (l ++ [x]).toArray.size := by rw [sort_length]; simp
    have h1 := hs i j (Nat.zero_le _) hij (by rw [← hlen]; exact hj)
    have h2 := (lt2_iff _ _).2 hlt
    unfold sortL at hi hj h2
    rw [Array.length_toList] at hi hj
    rw [getElem!_pos (insertionSort (ltOf orderI) (l ++ [x]).toArray 0 (l ++ [x]).toArray.size) i hi, getElem!_pos (insertionSort (ltOf orderI) (l ++ [x]).toArray 0 (l ++ [x]).toArray.size) j hj] at h1
    rw [Array.getElem_toList, Array.getElem_toList, h1] at h2
    cases h2
  · exact hI.imp fun {a b} h h' => lt2_irrefl _ (lt2_trans h h')
theorem ins_q {last : Int} {l : List S38} (q : CatQ last l) (x : S38) (hx : thingP x.f0 x.f1 x.f3) (he : x.f2 = last + 1) (hn : ∀ y ∈ l, ¬ sameKey y x) (hl : l.length < 8) (hlast : last < 99999) (hb : bytesN x.f0 l + x.f3.size ≤ 500) : CatQ (last + 1) (insT l x) := by
  have hp := insT_perm l x
  have hmem : ∀ y, y ∈ insT l x → y ∈ l ∨ y = x := fun y hy => by simpa using hp.subset hy
  have hbytes : ∀ h, bytesN h (insT l x) = bytesN h l + wt h x := fun h => by
    have : bytesN h (insT l x) = bytesN h (l ++ [x]) := by
      unfold bytesN
      exact (hp.map (wt h)).sum_nat
    rw [this, bytesN_app, bytesN_cons]
    rfl
  have h0 := q.lastP
  refine ⟨⟨by omega, by omega⟩, by rw [hp.length_eq]; simp; omega, fun y hy => ?_, ins_order q.order x hn, ?_, ?_⟩
  · rcases hmem y hy with h | rfl
    · have := q.thing y h
      exact ⟨this.1, this.2.1, by omega⟩
    · exact ⟨hx, by omega, by omega⟩
  · have hk := insK_le l x
    unfold insT
    rw [List.pairwise_append]
    have hne : ∀ y ∈ l, y.f2 ≠ x.f2 := fun y hy => by have := (q.thing y hy).2.2; omega
    refine ⟨q.ed.sublist (List.take_sublist _ _), List.pairwise_cons.2 ⟨fun y hy => (hne y (List.mem_of_mem_drop hy)).symm, q.ed.sublist (List.drop_sublist _ _)⟩, fun a ha b hb' => ?_⟩
    rcases List.mem_cons.1 hb' with rfl | hb'
    · exact hne a (List.mem_of_mem_take ha)
    · have hpw := q.ed
      rw [← List.take_append_drop (insK l x) l, List.pairwise_append] at hpw
      exact hpw.2.2 a ha b hb'
  · have b0 := q.bytes.1
    have b1 := q.bytes.2
    refine ⟨?_, ?_⟩
    · rw [hbytes]
      unfold wt
      split
      · rename_i h; rw [h] at hb; omega
      · omega
    · rw [hbytes]
      unfold wt
      split
      · rename_i h; rw [h] at hb; omega
      · omega
end Go.Proofs.Ytoohbmoljdfbjaa.P
