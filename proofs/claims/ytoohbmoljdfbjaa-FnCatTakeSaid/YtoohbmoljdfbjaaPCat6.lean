/- Plain law of the catalogue, sixth part: the law of taking. -/
import Derived.Test.YtoohbmoljdfbjaaPCat5
import Derived.Test.YtoohbmoljdfbjaaPx7
set_option linter.unusedVariables false
set_option linter.unusedSimpArgs false
namespace Go.Proofs.Ytoohbmoljdfbjaa.P
open Go.RowKit Go.Proofs.YtoohbmoljdfbjaaW.PrintWords Go.Proofs.YtoohbmoljdfbjaaW.PrintMore
theorem isThing_iff {h : Int} {n : ByteArray} {x : S38} : isThing h n x = true ↔ x.f0 = h ∧ x.f1.toList = n.toList := by unfold isThing; simp
theorem isEdition_iff {e : Int} {x : S38} : isEdition e x = true ↔ x.f2 = e := by unfold isEdition; simp
theorem of_not {p : S38 → Bool} {x : S38} (h : ¬ p x = true) : p x = false := by cases hp : p x with | true => exact absurd hp h | false => rfl
theorem first_key {l : List S38} (ho : l.Pairwise lt2) {h : Int} {n : ByteArray} {i : Nat} (hi : i < l.length) (hk : isThing h n (gt l i) = true) : firstAt (isThing h n) l = (i : Int) := by
  refine first_at hi hk fun j hj => of_not fun hq => ?_
  have hlt := List.pairwise_iff_getElem.1 ho j i (by omega) hi hj
  rw [← gt_at l j (by omega), ← gt_at l i hi] at hlt
  have a := isThing_iff.1 hk
  have b := isThing_iff.1 hq
  rcases hlt with c | ⟨_, c⟩
  · omega
  · rw [a.2, b.2] at c
    exact absurd c (List.lt_irrefl _)
theorem first_ed {l : List S38} (he : l.Pairwise (fun x y => x.f2 ≠ y.f2)) {i : Nat} (hi : i < l.length) : firstAt (isEdition (gt l i).f2) l = (i : Int) := by
  refine first_at hi (isEdition_iff.2 rfl) fun j hj => of_not fun hq => ?_
  have hlt := List.pairwise_iff_getElem.1 he j i (by omega) hi hj
  rw [← gt_at l j (by omega), ← gt_at l i hi] at hlt
  exact hlt (isEdition_iff.1 hq)
theorem none_of {p : S38 → Bool} {l : List S38} (h : ∀ y ∈ l, ¬ p y = true) : firstAt p l = -1 := by
  refine first_none fun j hj => of_not ?_
  rw [gt_at l j hj]
  exact h _ (List.getElem_mem hj)
theorem erase_rel {R : S38 → S38 → Prop} {l : List S38} (h : l.Pairwise R) {i : Nat} (hi : i < l.length) : ∀ y ∈ l.eraseIdx i, R y (gt l i) ∨ R (gt l i) y := by
  intro y hy
  rw [split_at l i hi, List.pairwise_append] at h
  rw [List.eraseIdx_eq_take_drop_succ] at hy
  rcases List.mem_append.1 hy with hy | hy
  · exact .inl (h.2.2 y hy _ (by simp))
  · exact .inr ((List.pairwise_cons.1 h.2.1).1 y hy)
theorem some5_get {last : Int} {l : List S38} (q : CatQ last l) {h : Int} {n : ByteArray} {i : Nat} (hi : i < l.length) (hk : isThing h n (gt l i) = true) : Ends (fun k => impl_CatGet.f k last l h n) (some5 (gt l i)) := by
  have e := iGet_f q.small.fit (catB_q.2 q) h n
  rw [first_key q.order hi hk, if_neg (by omega), Int.toNat_natCast] at e
  exact e
theorem some5_ed {last : Int} {l : List S38} (q : CatQ last l) {i : Nat} (hi : i < l.length) : Ends (fun k => impl_CatEdition.f k last l (gt l i).f2) (some5 (gt l i)) := by
  have e := iGetEd_f q.small.fit (catB_q.2 q) (gt l i).f2
  rw [first_ed q.ed hi, if_neg (by omega), Int.toNat_natCast] at e
  exact e
theorem j3_f (b : Bool) : Ends (fun k => laws_FnCatTake.j3 k b) b := Ends.succ (Ends.pure fun k => rfl) (fun k => laws_FnCatTake.j3.eq_2 _ k)
/-- the loop over what is left, and the end. -/
theorem law_loop {last : Int} {l m : List S38} (q : CatQ last l) (qm : CatQ last m) (hs : ∀ y ∈ m, y ∈ l) (code : Int) (u : Bool) (t0 : Int) (t1 : ByteArray) (t2 : Int) (t3 : ByteArray) (y0 : Int) (y1 : ByteArray) (y2 : Int) (y3 : ByteArray)
    (hfin : code = 0 → u = true ∧ y3.toList = t3.toList ∧ y2 > t2) : ∀ (d i : Nat), i + d = m.length →
    Ends (fun k => laws_FnCatTake.l0 k false false code u (i : Int) last l last m t0 t1 t2 t3 y0 y1 y2 y3) true
  | 0, i, hi => by
    refine Ends.succ ?_ (fun k => laws_FnCatTake.l0.eq_2 _ _ _ _ _ _ _ _ _ _ _ _ _ _ _ _ _ k)
    have e := iCatOk last m qm.small.fit
    rw [catB_q.2 qm] at e
    refine Ends.neg (by omega) (Ends.neg (by simp) (Ends.neg (by simp) (Ends.bind e (Ends.pos rfl (Ends.pos rfl ?_)))))
    by_cases h0 : code = 0
    · obtain ⟨a, b, c⟩ := hfin h0
      refine Ends.pos h0 (Ends.pos a (Ends.pos b ?_))
      rw [decide_eq_true c]
      exact j3_f true
    · exact Ends.neg h0 (j3_f true)
  | d + 1, i, hi => by
    have hlen := qm.len
    have ih := law_loop q qm hs code u t0 t1 t2 t3 y0 y1 y2 y3 hfin d (i + 1) (by omega)
    refine Ends.succ ?_ (fun k => laws_FnCatTake.l0.eq_2 _ _ _ _ _ _ _ _ _ _ _ _ _ _ _ _ _ k)
    refine Ends.pos (by omega) (Ends.pos (by omega) ?_)
    rw [rd_gt]
    have hm := hs m[i] (List.getElem_mem (by omega))
    obtain ⟨j, hj, hjm⟩ := List.getElem_of_mem hm
    have hg : gt l j = gt m i := by rw [gt_at l j hj, gt_at m i (by omega), hjm]
    have e := some5_ed q hj
    rw [hg] at e
    refine Ends.bind e (Ends.pos rfl ?_)
    refine Ends.succ ?_ (fun k => laws_FnCatTake.j2.eq_2 _ _ _ _ _ _ _ _ _ _ _ _ _ _ _ _ _ _ k)
    refine Ends.neg (by simp [some5]) ?_
    rw [w64 (by omega) (by omega), show (i : Int) + 1 = ((i + 1 : Nat) : Int) by omega]
    exact ih
theorem wh_code (last : Int) (l : List S38) (hl : l.length < 1000000000) (h : Int) (n : ByteArray) (c : Int) (a : Int) (b : List S38) : Ends (fun k => laws_FnCatTake.j0 k h n c c true a b last l last l) true := by
  refine Ends.succ ?_ (fun k => laws_FnCatTake.j0.eq_2 _ _ _ _ _ _ _ _ _ _ _ k)
  exact Ends.pos rfl (Ends.pos rfl (Ends.bind (whCat_f last l hl) (Ends.pure fun k => rfl)))
theorem take_law {last : Int} {l : List S38} (S : Small l) (h : Int) (n : ByteArray) (hn : n.size ≤ 1000) :
    Ends (fun k => laws_FnCatTake.j0 k h n (takeR last l h n).2.2 (takeR last l h n).2.2 ((takeR last l h n).2.2 != 0) last l (takeR last l h n).1 (takeR last l h n).2.1 (takeR last l h n).1 (takeR last l h n).2.1) true := by
  have hlen := S.len
  unfold takeR
  cases hc : catB last l with
  | false =>
    rw [if_neg (by simp)]
    exact wh_code 0 [] (by simp) h n 1 last l
  | true =>
    rw [if_pos rfl]
    have q := catB_q.1 hc
    have hl8 := q.len
    rcases first_cases (isThing h n) l with ⟨i, hi, hil, hk, _⟩ | ⟨hi, _⟩
    · rw [hi, if_neg (by omega), Int.toNat_natCast]
      have qm := erase_q q i hil
      have hk2 := isThing_iff.1 hk
      have hsub : ∀ y ∈ l.eraseIdx i, y ∈ l := fun y hy => (List.eraseIdx_sublist l i).subset hy
      have hno : ∀ y ∈ l.eraseIdx i, ¬ isThing h n y = true := by
        intro y hy hq
        have hq2 := isThing_iff.1 hq
        rcases erase_rel q.order hil y hy with (c | ⟨_, c⟩) | (c | ⟨_, c⟩)
        · omega
        · rw [hk2.2, hq2.2] at c; exact absurd c (List.lt_irrefl _)
        · omega
        · rw [hk2.2, hq2.2] at c; exact absurd c (List.lt_irrefl _)
      have hne : ∀ y ∈ l.eraseIdx i, ¬ isEdition (gt l i).f2 y = true := by
        intro y hy hq
        have hq2 := isEdition_iff.1 hq
        rcases erase_rel q.ed hil y hy with c | c
        · exact c hq2
        · exact c hq2.symm
      have e1 := some5_get q hil hk
      have e2 := iGet_f qm.small.fit (catB_q.2 qm) h n
      rw [none_of hno, if_pos (by omega)] at e2
      have e3 := iGetEd_f qm.small.fit (catB_q.2 qm) (gt l i).f2
      rw [none_of hne, if_pos (by omega)] at e3
      have ht : (gt l i).f3.size ≤ 1000 := by rw [gt_at l i hil]; exact (S.sizes _ (List.getElem_mem hil)).2
      have e4 := iPut_f last (l.eraseIdx i) qm.small.fit h n (gt l i).f3 (by omega) (by omega)
      have qp := putR_q qm h n (gt l i).f3
      have e5 := iGet_f qp.small.fit (catB_q.2 qp) h n
      refine Ends.succ ?_ (fun k => laws_FnCatTake.j0.eq_2 _ _ _ _ _ _ _ _ _ _ _ k)
      refine Ends.neg (by show ¬ ((0 : Int) != 0) = true; decide) (Ends.bind e1 (Ends.bind e2 (Ends.bind e3 (Ends.bind e4 (Ends.bind e5 ?_)))))
      refine law_loop q qm hsub _ _ _ _ _ _ _ _ _ _ (fun h0 => ?_) (l.eraseIdx i).length 0 (by omega)
      have hput : (putR last (l.eraseIdx i) h n (gt l i).f3) = (last + 1, insT (l.eraseIdx i) ⟨h, n, last + 1, (gt l i).f3⟩, 0) := by
        unfold putR at h0 ⊢
        rw [if_pos (catB_q.2 qm)] at h0 ⊢
        by_cases a1 : thingB h n (gt l i).f3 = true
        · rw [if_pos a1] at h0 ⊢
          by_cases a2 : 0 ≤ firstAt (isThing h n) (l.eraseIdx i)
          · rw [if_pos a2] at h0; exact absurd h0 (by show ¬ ((2 : Int) = 0); decide)
          · rw [if_neg a2] at h0 ⊢
            by_cases a3 : 8 ≤ (l.eraseIdx i).length ∨ 99999 ≤ last ∨ 500 < bytesN h (l.eraseIdx i) + (gt l i).f3.size
            · rw [if_pos a3] at h0; exact absurd h0 (by show ¬ ((4 : Int) = 0); decide)
            · rw [if_neg a3]
        · rw [if_neg a1] at h0; exact absurd h0 (by show ¬ ((1 : Int) = 0); decide)
      rw [hput] at qp ⊢
      have hmem : (⟨h, n, last + 1, (gt l i).f3⟩ : S38) ∈ insT (l.eraseIdx i) ⟨h, n, last + 1, (gt l i).f3⟩ := by unfold insT; simp
      obtain ⟨j, hj, hjx⟩ := List.getElem_of_mem hmem
      have hgj : gt (insT (l.eraseIdx i) ⟨h, n, last + 1, (gt l i).f3⟩) j = ⟨h, n, last + 1, (gt l i).f3⟩ := by rw [gt_at _ j hj, hjx]
      have hfst := first_key (h := h) (n := n) qp.order hj (by rw [hgj]; exact isThing_iff.2 ⟨rfl, rfl⟩)
      show (if firstAt (isThing h n) (insT (l.eraseIdx i) ⟨h, n, last + 1, (gt l i).f3⟩) < 0 then none5 else some5 (gt (insT (l.eraseIdx i) ⟨h, n, last + 1, (gt l i).f3⟩) (firstAt (isThing h n) (insT (l.eraseIdx i) ⟨h, n, last + 1, (gt l i).f3⟩)).toNat)).2.2.2.2 = true ∧ (if firstAt (isThing h n) (insT (l.eraseIdx i) ⟨h, n, last + 1, (gt l i).f3⟩) < 0 then none5 else some5 (gt (insT (l.eraseIdx i) ⟨h, n, last + 1, (gt l i).f3⟩) (firstAt (isThing h n) (insT (l.eraseIdx i) ⟨h, n, last + 1, (gt l i).f3⟩)).toNat)).2.2.2.1.toList = (gt l i).f3.toList ∧ (if firstAt (isThing h n) (insT (l.eraseIdx i) ⟨h, n, last + 1, (gt l i).f3⟩) < 0 then none5 else some5 (gt (insT (l.eraseIdx i) ⟨h, n, last + 1, (gt l i).f3⟩) (firstAt (isThing h n) (insT (l.eraseIdx i) ⟨h, n, last + 1, (gt l i).f3⟩)).toNat)).2.2.1 > (gt l i).f2
      rw [hfst, if_neg (by omega), Int.toNat_natCast, hgj]
      have hed := (q.thing (gt l i) (by rw [gt_at l i hil]; exact List.getElem_mem hil)).2.2
      exact ⟨rfl, rfl, by show last + 1 > (gt l i).f2; omega⟩
    · rw [hi, if_pos (by omega)]
      exact wh_code last l (by omega) h n 3 last l
theorem fnTake_pure : laws_FnCatTake.Pure := by
  intro l0 hmax hsz hw
  by_cases hbig : (l0.length : Int) > 1048576
  · exact ⟨0, by unfold laws_FnCatTake.f; rw [if_pos hbig]⟩
  · obtain ⟨last, l, h, n, e1, S, hn⟩ := drawTake_f hw
    have e2 := iTake_f last l S.fit h n
    have e3 := sTake_f last l S.fit h n
    have hR : (takeR last l h n).2.1.length < 1000000000 := by
      have := S.len
      unfold takeR
      split
      · split
        · show l.length < 1000000000; omega
        · have := (List.eraseIdx_sublist l (firstAt (isThing h n) l).toNat).length_le
          show (l.eraseIdx (firstAt (isThing h n) l).toNat).length < 1000000000
          omega
      · show ([] : List S38).length < 1000000000; simp
    have e4 := whCat_f (takeR last l h n).1 (takeR last l h n).2.1 hR
    have e5 := take_law (last := last) S h n hn
    have : Ends (fun k => laws_FnCatTake.f k l0) true := by
      unfold laws_FnCatTake.f
      exact Ends.neg hbig (Ends.bind e1 (Ends.bind e2 (Ends.bind e3 (Ends.pos rfl (Ends.bind e4 (Ends.pos rfl e5))))))
    exact this.get
end Go.Proofs.Ytoohbmoljdfbjaa.P
