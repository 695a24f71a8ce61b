/- Plain law of the catalogue, fourth part: what taking, putting and getting tell, in both programs. -/
import Derived.Test.YtoohbmoljdfbjaaPCat3
set_option linter.unusedVariables false
set_option linter.unusedSimpArgs false
namespace Go.Proofs.Ytoohbmoljdfbjaa.P
open Go.RowKit Go.Proofs.YtoohbmoljdfbjaaW.PrintWords Go.Proofs.YtoohbmoljdfbjaaW.PrintMore
/-! ### taking -/
noncomputable def takeR (last : Int) (l : List S38) (h : Int) (n : ByteArray) : Int × List S38 × Int :=
  if catB last l = true then (if firstAt (isThing h n) l < 0 then (last, l, 3) else (last, l.eraseIdx (firstAt (isThing h n) l).toNat, 0)) else (0, [], 1)
theorem first_range (p : S38 → Bool) (l : List S38) : -1 ≤ firstAt p l ∧ firstAt p l < (l.length : Int) := by
  rcases first_cases p l with ⟨i, h1, h2, _⟩ | ⟨h1, _⟩ <;> omega
theorem iTake_f (last : Int) (l : List S38) (F : Fit l) (h : Int) (n : ByteArray) : Ends (fun k => impl_CatTake.f k last l h n) (takeR last l h n) := by
  have hlen := F.len
  unfold impl_CatTake.f takeR
  cases hc : catB last l with
  | false =>
    have e := iCatOk last l F
    rw [hc] at e
    rw [if_neg (by simp)]
    exact Ends.bind e (Ends.neg (by simp) (Ends.pure fun k => rfl))
  | true =>
    have e := iCatOk last l F
    rw [hc] at e
    rw [if_pos rfl]
    have hr := first_range (isThing h n) l
    have hclone : impl_cloneCat.f last l = some (last, l) := by
      unfold impl_cloneCat.f
      simp only [Option.bind_some]
      rw [if_pos (by simp; omega)]
      rfl
    have ht : impl_Cat_take.f last l h n = some (if firstAt (isThing h n) l < 0 then (last, l, 3) else (last, l.eraseIdx (firstAt (isThing h n) l).toNat, 0)) := by
      unfold impl_Cat_take.f
      rw [hclone, iFind_f _ _ _ _ (by omega)]
      simp only [Option.bind_some]
      by_cases h1 : firstAt (isThing h n) l < 0
      · rw [if_pos h1, if_pos h1]
      · rw [if_neg h1, if_neg h1]
        have w1 : wrap64 (firstAt (isThing h n) l + 1) = firstAt (isThing h n) l + 1 := w64 (by omega) (by omega)
        unfold slices_Delete_Item.f
        rw [w1, if_pos ⟨by omega, by omega, rfl⟩]
        simp only [Option.bind_some]
        rw [if_pos (by have := (List.eraseIdx_sublist l (firstAt (isThing h n) l).toNat).length_le; simp; omega)]
        rfl
    refine Ends.bind e (Ends.pos rfl (Ends.pure fun k => ?_))
    rw [ht]
    rfl
theorem sTake_f (last : Int) (l : List S38) (F : Fit l) (h : Int) (n : ByteArray) : Ends (fun k => spec_CatTake.f k last l h n) (takeR last l h n) := by
  have hlen := F.len
  unfold spec_CatTake.f takeR
  have e := sCatOk last l F
  cases hc : catB last l with
  | false =>
    rw [hc] at e
    rw [if_neg (by simp)]
    exact Ends.bind e (Ends.neg (by simp) (Ends.pure fun k => rfl))
  | true =>
    rw [hc] at e
    rw [if_pos rfl]
    have hr := first_range (isThing h n) l
    have hcopy : spec_l9Copy.f last l = some (last, l) := by
      unfold spec_l9Copy.f
      simp only [Option.bind_some]
      rw [if_pos (by simp; omega)]
      rfl
    refine Ends.bind e (Ends.pos rfl (Ends.bind (sAt_f h n last l (by omega)) ?_))
    by_cases h1 : firstAt (isThing h n) l < 0
    · refine Ends.pos h1 (Ends.pure fun k => ?_)
      rw [hcopy, if_pos h1]
      rfl
    · refine Ends.neg h1 (Ends.pure fun k => ?_)
      rw [if_neg h1]
      have w1 : wrap64 (firstAt (isThing h n) l + 1) = firstAt (isThing h n) l + 1 := w64 (by omega) (by omega)
      unfold spec_l9Take.f
      simp only [Option.bind_some, w1]
      rw [if_pos (by omega), if_pos (by omega), if_pos (by simp; omega), if_pos (by omega), if_pos (by omega), if_pos (by simp; omega)]
      rw [List.eraseIdx_eq_take_drop_succ, show (firstAt (isThing h n) l + 1).toNat = (firstAt (isThing h n) l).toNat + 1 by omega]
      rfl
/-! ### putting -/
noncomputable def thingB (h : Int) (n t : ByteArray) : Bool := @decide (thingP h n t) (Classical.propDecidable _)
theorem thingB_true {h : Int} {n t : ByteArray} : thingB h n t = true ↔ thingP h n t := by unfold thingB; exact @decide_eq_true_iff _ (Classical.propDecidable _)
theorem eq_thingB {h : Int} {n t : ByteArray} {b : Bool} (hb : b = true ↔ thingP h n t) : b = thingB h n t := by
  cases b with
  | true => exact (thingB_true.2 (hb.1 rfl)).symm
  | false =>
    cases hc : thingB h n t with
    | true => exact hb.2 (thingB_true.1 hc)
    | false => rfl
noncomputable def putR (last : Int) (l : List S38) (h : Int) (n t : ByteArray) : Int × List S38 × Int :=
  if catB last l = true then (if thingB h n t = true then (if 0 ≤ firstAt (isThing h n) l then (last, l, 2) else if 8 ≤ l.length ∨ 99999 ≤ last ∨ 500 < bytesN h l + t.size then (last, l, 4) else (last + 1, insT l ⟨h, n, last + 1, t⟩, 0)) else (last, l, 1)) else (0, [], 1)
theorem not_there {h : Int} {n : ByteArray} {l : List S38} (hf : ¬ 0 ≤ firstAt (isThing h n) l) (e : Int) (t : ByteArray) : ∀ y ∈ l, ¬ sameKey y ⟨h, n, e, t⟩ := by
  intro y hy hk
  rcases first_cases (isThing h n) l with ⟨i, h1, _⟩ | ⟨h1, h2⟩
  · omega
  · obtain ⟨i, hi, rfl⟩ := List.getElem_of_mem hy
    have := h2 i hi
    rw [gt_at l i hi] at this
    unfold isThing at this
    have e1 : l[i].f0 = h := hk.1
    have e2 : l[i].f1.toList = n.toList := hk.2
    simp [e1, e2] at this
theorem iClone_f (a : Int) (l : List S38) (hl : l.length < 1000000000) : impl_cloneCat.f a l = some (a, l) := by
  unfold impl_cloneCat.f
  simp only [Option.bind_some]
  rw [if_pos (by simp; omega)]
  rfl
theorem iPut_f (last : Int) (l : List S38) (F : Fit l) (h : Int) (n t : ByteArray) (hn : n.size < 1000000000) (ht : t.size < 1000000000) : Ends (fun k => impl_CatPut.f k last l h n t) (putR last l h n t) := by
  have hlen := F.len
  unfold impl_CatPut.f putR
  have e := iCatOk last l F
  cases hc : catB last l with
  | false =>
    rw [hc] at e
    rw [if_neg (by simp)]
    exact Ends.bind e (Ends.neg (by simp) (Ends.pure fun k => rfl))
  | true =>
    rw [hc] at e
    rw [if_pos rfl]
    have q := catB_q.1 hc
    have h0 := q.lastP
    refine Ends.bind e (Ends.pos rfl ?_)
    have out : ∀ {r}, Ends (fun k => impl_Cat_put.f k last l h n t) r → Ends (fun k => (impl_Cat_put.f k last l h n t).bind fun bt159 => some (bt159.1, bt159.2.1, bt159.2.2)) r := fun hr => Ends.bind hr (Ends.pure fun k => rfl)
    refine out ?_
    unfold impl_Cat_put.f
    simp only [iClone_f last l (by omega), Option.bind_some]
    obtain ⟨b, hb, hq⟩ := iOk_f h n t hn
    rw [eq_thingB hq] at hb
    refine Ends.bind hb ?_
    cases hth : thingB h n t with
    | false =>
      rw [if_neg (by simp)]
      exact Ends.neg (by simp) (Ends.pure fun k => rfl)
    | true =>
      rw [if_pos rfl]
      refine Ends.pos rfl ?_
      simp only [iFind_f h n last l (by omega), Option.bind_some]
      have full : Ends (fun k => impl_Cat_put.j0 k h n t true last l) (last, l, 4) := by
        refine Ends.succ ?_ (fun k => impl_Cat_put.j0.eq_2 _ _ _ _ _ _ k)
        exact Ends.pos rfl (Ends.pure fun k => rfl)
      by_cases h1 : 0 ≤ firstAt (isThing h n) l
      · rw [if_pos h1]
        exact Ends.pos h1 (Ends.pure fun k => rfl)
      · rw [if_neg h1]
        refine Ends.neg h1 ?_
        by_cases h2 : l.length = 8
        · rw [if_pos (by omega)]
          exact Ends.pos (by omega) full
        · by_cases h3 : last = 99999
          · rw [if_pos (by omega)]
            exact Ends.neg (by omega) (Ends.pos h3 full)
          · have hbl := F.bytes h
            refine Ends.neg (by omega) (Ends.neg h3 (Ends.bind (iBytes_f h last l (by omega) hbl) ?_))
            have w1 : wrap64 (((bytesN h l : Nat) : Int) + (t.size : Int)) = ((bytesN h l : Nat) : Int) + (t.size : Int) := w64 (by omega) (by omega)
            rw [w1]
            by_cases h4 : ((bytesN h l : Nat) : Int) + (t.size : Int) > 500
            · rw [decide_eq_true h4, if_pos (by omega)]
              exact full
            · have hq8 := q.len
              rw [decide_eq_false h4, if_neg (by omega)]
              refine Ends.succ ?_ (fun k => impl_Cat_put.j0.eq_2 _ _ _ _ _ _ k)
              refine Ends.neg (by simp) (Ends.pos (by omega) (Ends.pure fun k => ?_))
              have w2 : wrap64 (last + 1) = last + 1 := w64 (by omega) (by omega)
              unfold slices_SortFunc_Item.f
              rw [w2, if_pos (by simp; omega), sort_ins q.order ⟨h, n, last + 1, t⟩ (not_there h1 _ _)]
              have hil : (insT l ⟨h, n, last + 1, t⟩).length = l.length + 1 := by rw [(insT_perm l _).length_eq]; simp
              simp only [Option.bind_some, iClone_f (last + 1) (insT l ⟨h, n, last + 1, t⟩) (by omega)]
theorem sPutAt (last : Int) (h0 : 0 ≤ last ∧ last ≤ 99999) (l : List S38) (hlen : l.length < 1000000) (h : Int) (n : ByteArray) (e : Int) (t : ByteArray) : ∀ (d i : Nat), i + d = insK l ⟨h, n, last + 1, t⟩ → Ends (fun k => spec_l9Put.l0 k (i : Int) last l h n e t) (last + 1, insT l ⟨h, n, last + 1, t⟩)
  | 0, i, hi => by
    obtain rfl : i = insK l ⟨h, n, last + 1, t⟩ := by omega
    have hk := insK_le l ⟨h, n, last + 1, t⟩
    have fin : Ends (fun k => spec_l9Put.j1 k ((insK l ⟨h, n, last + 1, t⟩ : Nat) : Int) false last l h n e t) (last + 1, insT l ⟨h, n, last + 1, t⟩) := by
      refine Ends.succ ?_ (fun k => spec_l9Put.j1.eq_2 _ _ _ _ _ _ _ _ k)
      refine Ends.neg (by simp) (Ends.pure fun k => ?_)
      have w2 : wrap64 (last + 1) = last + 1 := w64 (by omega) (by omega)
      simp only [Option.bind_some, w2, Int.toNat_natCast]
      rw [if_pos (by omega), if_pos (by omega), if_pos (by simp; omega), if_pos (by simp; omega), if_pos (by simp; omega)]
      unfold insT
      simp
    refine Ends.succ ?_ (fun k => spec_l9Put.l0.eq_2 _ _ _ _ _ _ _ k)
    by_cases hl : insK l ⟨h, n, last + 1, t⟩ < l.length
    · refine Ends.pos (by omega) (Ends.pos (by omega) ?_)
      rw [rd_gt]
      obtain ⟨b, hb, hq⟩ := sLess_f (gt l (insK l ⟨h, n, last + 1, t⟩)) h n
      have hno := insK_at l ⟨h, n, last + 1, t⟩ hl
      cases b with
      | true => exact absurd (hq.1 rfl) hno
      | false => exact Ends.bind hb fin
    · exact Ends.neg (by omega) fin
  | d + 1, i, hi => by
    have hk := insK_le l ⟨h, n, last + 1, t⟩
    have ih := sPutAt last h0 l hlen h n e t d (i + 1) (by omega)
    refine Ends.succ ?_ (fun k => spec_l9Put.l0.eq_2 _ _ _ _ _ _ _ k)
    refine Ends.pos (by omega) (Ends.pos (by omega) ?_)
    rw [rd_gt]
    obtain ⟨b, hb, hq⟩ := sLess_f (gt l i) h n
    have hyes := insK_lt l ⟨h, n, last + 1, t⟩ i (by omega)
    cases b with
    | false => exact absurd (hq.2 hyes) (by simp)
    | true =>
      refine Ends.bind hb (Ends.succ ?_ (fun k => spec_l9Put.j1.eq_2 _ _ _ _ _ _ _ _ k))
      refine Ends.pos rfl ?_
      rw [show wrap64 ((i : Int) + 1) = ((i + 1 : Nat) : Int) by rw [w64 (by omega) (by omega)]; omega]
      exact ih
theorem sCopy_f (a : Int) (l : List S38) (hl : l.length < 1000000000) : spec_l9Copy.f a l = some (a, l) := by
  unfold spec_l9Copy.f
  simp only [Option.bind_some]
  rw [if_pos (by simp; omega)]
  rfl
theorem sPut_f (last : Int) (l : List S38) (F : Fit l) (h : Int) (n t : ByteArray) (hn : n.size < 1000000000) (ht : t.size < 1000000000) : Ends (fun k => spec_CatPut.f k last l h n t) (putR last l h n t) := by
  have hlen := F.len
  unfold spec_CatPut.f putR
  have e := sCatOk last l F
  cases hc : catB last l with
  | false =>
    rw [hc] at e
    rw [if_neg (by simp)]
    exact Ends.bind e (Ends.neg (by simp) (Ends.pure fun k => rfl))
  | true =>
    rw [hc] at e
    rw [if_pos rfl]
    have q := catB_q.1 hc
    have h0 := q.lastP
    refine Ends.bind e (Ends.pos rfl ?_)
    simp only [sCopy_f last l (by omega), Option.bind_some]
    obtain ⟨b, hb, hq⟩ := sOk_f h n 0 t hn
    rw [eq_thingB hq] at hb
    refine Ends.bind hb ?_
    cases hth : thingB h n t with
    | false =>
      rw [if_neg (by simp)]
      exact Ends.neg (by simp) (Ends.pure fun k => rfl)
    | true =>
      rw [if_pos rfl]
      refine Ends.pos rfl (Ends.bind (sAt_f h n last l (by omega)) ?_)
      have full : Ends (fun k => spec_CatPut.j0 k true last l h n 0 t) (last, l, 4) := by
        refine Ends.succ ?_ (fun k => spec_CatPut.j0.eq_2 _ _ _ _ _ _ _ k)
        refine Ends.pos rfl (Ends.pure fun k => ?_)
        rw [sCopy_f last l (by omega)]
        rfl
      by_cases h1 : 0 ≤ firstAt (isThing h n) l
      · rw [if_pos h1]
        exact Ends.pos h1 (Ends.pure fun k => rfl)
      · rw [if_neg h1]
        refine Ends.neg h1 ?_
        by_cases h2 : 8 ≤ l.length
        · rw [if_pos (by omega)]
          exact Ends.pos (by omega) full
        · by_cases h3 : 99999 ≤ last
          · rw [if_pos (by omega)]
            exact Ends.neg (by omega) (Ends.pos h3 full)
          · have hbl := F.bytes h
            refine Ends.neg (by omega) (Ends.neg h3 (Ends.bind (sBytes_f h l (by omega) hbl) ?_))
            have w1 : wrap64 (((bytesN h l : Nat) : Int) + (t.size : Int)) = ((bytesN h l : Nat) : Int) + (t.size : Int) := w64 (by omega) (by omega)
            rw [w1]
            by_cases h4 : ((bytesN h l : Nat) : Int) + (t.size : Int) > 500
            · rw [decide_eq_true h4, if_pos (by omega)]
              exact full
            · rw [decide_eq_false h4, if_neg (by omega)]
              refine Ends.succ ?_ (fun k => spec_CatPut.j0.eq_2 _ _ _ _ _ _ _ k)
              refine Ends.neg (by simp) ?_
              exact Ends.bind (sPutAt last h0 l hlen h n 0 t (insK l ⟨h, n, last + 1, t⟩) 0 (by omega)) (Ends.pure fun k => rfl)
/-! ### alike -/
theorem whCat_loop (a b : Int) (l : List S38) (hl : l.length < 1000000000) : ∀ (d i : Nat), i + d = l.length → Ends (fun k => laws_whCat.l0 k (i : Int) a l b l) true
  | 0, i, h => by
    refine Ends.succ ?_ (fun k => laws_whCat.l0.eq_2 _ _ _ _ _ k)
    exact Ends.neg (by omega) (Ends.pure fun k => rfl)
  | d + 1, i, h => by
    refine Ends.succ ?_ (fun k => laws_whCat.l0.eq_2 _ _ _ _ _ k)
    refine Ends.pos (by omega) (Ends.pos (by omega) (Ends.pos (by omega) (Ends.neg (by simp) ?_)))
    rw [w64 (by omega) (by omega), show (i : Int) + 1 = ((i + 1 : Nat) : Int) by omega]
    exact whCat_loop a b l hl d (i + 1) (by omega)
theorem whCat_f (a : Int) (l : List S38) (hl : l.length < 1000000000) : Ends (fun k => laws_whCat.f k a l a l) true := by
  unfold laws_whCat.f
  refine Ends.pos rfl (Ends.succ ?_ (fun k => laws_whCat.j0.eq_2 _ _ _ _ _ k))
  exact Ends.neg (by simp) (whCat_loop a a l hl l.length 0 (by omega))
end Go.Proofs.Ytoohbmoljdfbjaa.P
