/- Plain law of the catalogue, second part: both programs' tests of a catalogue come to the same. -/
import Derived.Test.YtoohbmoljdfbjaaPCat1
set_option linter.unusedVariables false
set_option linter.unusedSimpArgs false
namespace Go.Proofs.Ytoohbmoljdfbjaa.P
open Go.RowKit Go.Proofs.YtoohbmoljdfbjaaW.PrintWords Go.Proofs.YtoohbmoljdfbjaaW.PrintMore
def gt (l : List S38) (i : Nat) : S38 := l.getD i z38
theorem rd_gt (l : List S38) (i : Nat) : rd_T38 l (i : Int) = gt l i := by unfold rd_T38 gt; rw [Int.toNat_natCast]
theorem gt_at (l : List S38) (i : Nat) (h : i < l.length) : gt l i = l[i] := by unfold gt; simp [h]
/-! ### order -/
def ltT (x : S38) (h : Int) (n : ByteArray) : Prop := x.f0 < h ∨ x.f0 = h ∧ x.f1.toList < n.toList
def lt2 (x y : S38) : Prop := ltT x y.f0 y.f1
theorem sLess_f (x : S38) (h : Int) (n : ByteArray) : ∃ b, Ends (fun k => spec_l9Less.f k x.f0 x.f1 x.f2 x.f3 h n) b ∧ (b = true ↔ ltT x h n) := by
  have j0 : ∀ b, Ends (fun k => spec_l9Less.j0 k b) b := fun b => Ends.succ (Ends.pure fun k => rfl) (fun k => spec_l9Less.j0.eq_2 _ k)
  unfold spec_l9Less.f ltT
  by_cases h1 : x.f0 < h
  · exact ⟨true, Ends.pos h1 (j0 true), by simp [h1]⟩
  · by_cases h2 : x.f0 = h
    · refine ⟨_, Ends.neg h1 (Ends.pos h2 (j0 _)), ?_⟩
      rw [bytesLess_eq, decide_eq_true_iff]
      exact ⟨fun q => .inr ⟨h2, q⟩, fun q => by
        rcases q with q | q
        · exact absurd q h1
        · exact q.2⟩
    · exact ⟨false, Ends.neg h1 (Ends.neg h2 (j0 false)), ⟨fun q => (by cases q), fun q => by
        rcases q with q | q
        · exact absurd q h1
        · exact absurd q.1 h2⟩⟩
theorem order_f (x y : S38) : Ends (fun k => impl_itemOrder.f k x.f0 x.f1 x.f2 x.f3 y.f0 y.f1 y.f2 y.f3) (orderI x y) := by
  unfold impl_itemOrder.f
  simp only [cmp_int, Option.bind_some, show ∀ a b, cmp_Compare_string.f a b = some (cmpB a b) from fun _ _ => rfl]
  have h := Ends.of (g := fun k => cmp_Or_int.f k [(if x.f0 < y.f0 then (-1 : Int) else if y.f0 < x.f0 then 1 else 0), cmpB x.f1 y.f1]) (fun k => cmp_Or_int.mono _ k) (or_int _ _)
  have e : orderI x y = if (if x.f0 < y.f0 then (-1 : Int) else if y.f0 < x.f0 then 1 else 0) = 0 then cmpB x.f1 y.f1 else (if x.f0 < y.f0 then (-1 : Int) else if y.f0 < x.f0 then 1 else 0) := by
    unfold orderI
    by_cases h : x.f0 < y.f0
    · simp [h]
    · by_cases h2 : y.f0 < x.f0 <;> simp [h, h2]
  rw [e]
  exact Ends.bind h (Ends.pure fun k => rfl)
theorem order_ge (x y : S38) : orderI x y ≥ 0 ↔ ¬ lt2 x y := by
  have h := order_lt x y
  unfold ltOf at h
  rw [decide_eq_true_iff] at h
  have e : lt2 x y ↔ (x.f0 < y.f0 ∨ x.f0 = y.f0 ∧ x.f1.toList < y.f1.toList) := Iff.rfl
  rw [e, ← h]
  omega
/-! ### places -/
theorem first_cases (p : S38 → Bool) (l : List S38) : (∃ i : Nat, firstAt p l = (i : Int) ∧ i < l.length ∧ p (gt l i) = true ∧ ∀ j, j < i → p (gt l j) = false) ∨ (firstAt p l = -1 ∧ ∀ j, j < l.length → p (gt l j) = false) := by
  unfold firstAt
  cases h : l.findIdx? p with
  | none =>
    refine .inr ⟨rfl, fun j hj => ?_⟩
    rw [List.findIdx?_eq_none_iff] at h
    rw [gt_at l j hj]
    exact h _ (List.getElem_mem hj)
  | some i =>
    rw [List.findIdx?_eq_some_iff_getElem] at h
    obtain ⟨hi, h1, h2⟩ := h
    refine .inl ⟨i, rfl, hi, by rw [gt_at l i hi]; exact h1, fun j hj => ?_⟩
    rw [gt_at l j (by omega)]
    simpa using h2 j hj
theorem first_at {p : S38 → Bool} {l : List S38} {i : Nat} (hi : i < l.length) (h1 : p (gt l i) = true) (h2 : ∀ j, j < i → p (gt l j) = false) : firstAt p l = (i : Int) := by
  unfold firstAt
  rw [first_hit hi h1 h2]
theorem first_none {p : S38 → Bool} {l : List S38} (h : ∀ j, j < l.length → p (gt l j) = false) : firstAt p l = -1 := by
  unfold firstAt
  rw [first_miss h]
theorem sAt_loop (h : Int) (n : ByteArray) (a : Int) (l : List S38) (hl : l.length < 1000000000) : ∀ (d i : Nat), i + d = l.length → (∀ j, j < i → isThing h n (gt l j) = false) → Ends (fun k => spec_l9At.l0 k h n (i : Int) a l) (firstAt (isThing h n) l)
  | 0, i, hi, hn => by
    rw [first_none (fun j hj => hn j (by omega))]
    refine Ends.succ ?_ (fun k => spec_l9At.l0.eq_2 _ _ _ _ _ k)
    exact Ends.neg (by omega) (Ends.pure fun k => rfl)
  | d + 1, i, hi, hn => by
    have w1 : wrap64 ((i : Int) + 1) = ((i + 1 : Nat) : Int) := by rw [w64 (by omega) (by omega)]; omega
    have next : isThing h n (gt l i) = false → Ends (fun k => spec_l9At.j1 k h n (i : Int) false a l) (firstAt (isThing h n) l) := fun hf => by
      refine Ends.succ ?_ (fun k => spec_l9At.j1.eq_2 _ _ _ _ _ _ k)
      refine Ends.neg (by simp) ?_
      rw [w1]
      exact sAt_loop h n a l hl d (i + 1) (by omega) (fun j hj => by
        by_cases e : j = i
        · subst e; exact hf
        · exact hn j (by omega))
    refine Ends.succ ?_ (fun k => spec_l9At.l0.eq_2 _ _ _ _ _ k)
    refine Ends.pos (by omega) (Ends.pos (by omega) ?_)
    rw [rd_gt]
    by_cases h1 : (gt l i).f0 = h
    · refine Ends.pos h1 ?_
      cases h2 : ((gt l i).f1.toList == n.toList) with
      | true =>
        have ht : isThing h n (gt l i) = true := by unfold isThing; rw [h2]; simp [h1]
        rw [first_at (by omega) ht hn]
        refine Ends.succ ?_ (fun k => spec_l9At.j1.eq_2 _ _ _ _ _ _ k)
        exact Ends.pos rfl (Ends.pure fun k => rfl)
      | false => exact next (by unfold isThing; rw [h2]; simp)
    · exact Ends.neg h1 (next (by unfold isThing; simp [h1]))
theorem sAt_f (h : Int) (n : ByteArray) (a : Int) (l : List S38) (hl : l.length < 1000000000) : Ends (fun k => spec_l9At.f k a l h n) (firstAt (isThing h n) l) := sAt_loop h n a l hl l.length 0 (by omega) (fun j hj => by omega)
theorem iFind_f (h : Int) (n : ByteArray) (a : Int) (l : List S38) (hl : l.length < 1000000000) : impl_Cat_find.f a l h n = some (firstAt (isThing h n) l) := by
  unfold impl_Cat_find.f
  rw [if_pos (by omega)]
theorem iEd_f (e : Int) (a : Int) (l : List S38) (hl : l.length < 1000000000) : impl_Cat_edition.f a l e = some (firstAt (isEdition e) l) := by
  unfold impl_Cat_edition.f
  rw [if_pos (by omega)]
theorem ed_first (l : List S38) (i : Nat) (hi : i < l.length) : firstAt (isEdition (gt l i).f2) l = (i : Int) ↔ ∀ j, j < i → (gt l j).f2 ≠ (gt l i).f2 := by
  constructor
  · intro h j hj e
    rcases first_cases (isEdition (gt l i).f2) l with ⟨m, h1, h2, h3, h4⟩ | ⟨h1, h2⟩
    · have em : m = i := by omega
      subst em
      have := h4 j hj
      unfold isEdition at this
      simp [e] at this
    · omega
  · intro h
    refine first_at hi (by unfold isEdition; simp) fun j hj => ?_
    unfold isEdition
    simpa using h j hj
/-! ### a catalogue that is ok -/
def okAt (last : Int) (l : List S38) (i : Nat) : Prop := thingP (gt l i).f0 (gt l i).f1 (gt l i).f3 ∧ (1 ≤ (gt l i).f2 ∧ (gt l i).f2 ≤ last) ∧ (0 < i → lt2 (gt l (i - 1)) (gt l i)) ∧ ∀ j, j < i → (gt l j).f2 ≠ (gt l i).f2
/-- within bounds that all that is drawn keeps. -/
structure Fit (l : List S38) : Prop where
  len : l.length < 1000000
  name : ∀ i, (gt l i).f1.size < 1000000000
  bytes : ∀ h, bytesN h l < 1000000000000
def bytesP (l : List S38) : Prop := bytesN 0 l ≤ 500 ∧ bytesN 1 l ≤ 500
def catP (last : Int) (l : List S38) : Prop := (0 ≤ last ∧ last ≤ 99999) ∧ l.length ≤ 8 ∧ (∀ j, j < l.length → okAt last l j) ∧ bytesP l
noncomputable def catB (last : Int) (l : List S38) : Bool := @decide (catP last l) (Classical.propDecidable _)
theorem catB_true {last : Int} {l : List S38} : catB last l = true ↔ catP last l := by unfold catB; exact @decide_eq_true_iff _ (Classical.propDecidable _)
theorem eq_catB {last : Int} {l : List S38} {b : Bool} (h : b = true ↔ catP last l) : b = catB last l := by
  cases b with
  | true => exact (catB_true.2 (h.1 rfl)).symm
  | false =>
    cases hc : catB last l with
    | true => exact h.2 (catB_true.1 hc)
    | false => rfl
theorem sTail (last : Int) (l : List S38) (F : Fit l) : ∃ b, Ends (fun k => spec_CatOk.l2 k 0 last l) b ∧ (b = true ↔ bytesP l) := by
  have hlen := F.len
  have w1 : wrap64 (0 + 1) = 1 := by unfold wrap64; omega
  have w2 : wrap64 (1 + 1) = 2 := by unfold wrap64; omega
  have b0 := sBytes_f 0 l (by omega) (F.bytes 0)
  have b1 := sBytes_f 1 l (by omega) (F.bytes 1)
  by_cases h0 : ((bytesN 0 l : Nat) : Int) > 500
  · refine ⟨false, Ends.succ ?_ (fun k => spec_CatOk.l2.eq_2 _ _ _ k), ⟨fun q => (by cases q), fun q => by have := q.1; omega⟩⟩
    exact Ends.pos (by decide) (Ends.bind b0 (Ends.pos h0 (Ends.pure fun k => rfl)))
  · by_cases h1 : ((bytesN 1 l : Nat) : Int) > 500
    · refine ⟨false, Ends.succ ?_ (fun k => spec_CatOk.l2.eq_2 _ _ _ k), ⟨fun q => (by cases q), fun q => by have := q.2; omega⟩⟩
      refine Ends.pos (by decide) (Ends.bind b0 (Ends.neg h0 ?_))
      rw [w1]
      refine Ends.succ ?_ (fun k => spec_CatOk.l2.eq_2 _ _ _ k)
      exact Ends.pos (by decide) (Ends.bind b1 (Ends.pos h1 (Ends.pure fun k => rfl)))
    · refine ⟨true, Ends.succ ?_ (fun k => spec_CatOk.l2.eq_2 _ _ _ k), ⟨fun _ => ⟨by omega, by omega⟩, fun _ => rfl⟩⟩
      refine Ends.pos (by decide) (Ends.bind b0 (Ends.neg h0 ?_))
      rw [w1]
      refine Ends.succ ?_ (fun k => spec_CatOk.l2.eq_2 _ _ _ k)
      refine Ends.pos (by decide) (Ends.bind b1 (Ends.neg h1 ?_))
      rw [w2]
      refine Ends.succ ?_ (fun k => spec_CatOk.l2.eq_2 _ _ _ k)
      exact Ends.neg (by decide) (Ends.pure fun k => rfl)
theorem iTail (last : Int) (l : List S38) (F : Fit l) : ∃ b, Ends (fun k => impl_CatOk.l1 k 0 last l) b ∧ (b = true ↔ bytesP l) := by
  have hlen := F.len
  have w1 : wrap64 (0 + 1) = 1 := by unfold wrap64; omega
  have w2 : wrap64 (1 + 1) = 2 := by unfold wrap64; omega
  have b0 := iBytes_f 0 last l (by omega) (F.bytes 0)
  have b1 := iBytes_f 1 last l (by omega) (F.bytes 1)
  by_cases h0 : ((bytesN 0 l : Nat) : Int) > 500
  · refine ⟨false, Ends.succ ?_ (fun k => impl_CatOk.l1.eq_2 _ _ _ k), ⟨fun q => (by cases q), fun q => by have := q.1; omega⟩⟩
    exact Ends.pos (by decide) (Ends.bind b0 (Ends.pos h0 (Ends.pure fun k => rfl)))
  · by_cases h1 : ((bytesN 1 l : Nat) : Int) > 500
    · refine ⟨false, Ends.succ ?_ (fun k => impl_CatOk.l1.eq_2 _ _ _ k), ⟨fun q => (by cases q), fun q => by have := q.2; omega⟩⟩
      refine Ends.pos (by decide) (Ends.bind b0 (Ends.neg h0 ?_))
      rw [w1]
      refine Ends.succ ?_ (fun k => impl_CatOk.l1.eq_2 _ _ _ k)
      exact Ends.pos (by decide) (Ends.bind b1 (Ends.pos h1 (Ends.pure fun k => rfl)))
    · refine ⟨true, Ends.succ ?_ (fun k => impl_CatOk.l1.eq_2 _ _ _ k), ⟨fun _ => ⟨by omega, by omega⟩, fun _ => rfl⟩⟩
      refine Ends.pos (by decide) (Ends.bind b0 (Ends.neg h0 ?_))
      rw [w1]
      refine Ends.succ ?_ (fun k => impl_CatOk.l1.eq_2 _ _ _ k)
      refine Ends.pos (by decide) (Ends.bind b1 (Ends.neg h1 ?_))
      rw [w2]
      refine Ends.succ ?_ (fun k => impl_CatOk.l1.eq_2 _ _ _ k)
      exact Ends.neg (by decide) (Ends.pure fun k => rfl)
/-- the inner loop: no two editions are one. -/
theorem sIn (last : Int) (l : List S38) (F : Fit l) (i : Nat) (hi : i < l.length) (f0 : Int) (f1 : ByteArray) (e : Int) (f3 : ByteArray) {b : Bool} (hb : Ends (fun k => spec_CatOk.l0 k ((i + 1 : Nat) : Int) last l) b) : ∀ (d j : Nat), j + d = i → (∀ m, j ≤ m → m < i → (gt l m).f2 ≠ e) → Ends (fun k => spec_CatOk.l1 k (i : Int) (j : Int) last l f0 f1 e f3) b
  | 0, j, hj, hn => by
    have hlen := F.len
    refine Ends.succ ?_ (fun k => spec_CatOk.l1.eq_2 _ _ _ _ _ _ _ _ k)
    refine Ends.neg (by omega) ?_
    rw [show wrap64 ((i : Int) + 1) = ((i + 1 : Nat) : Int) by rw [w64 (by omega) (by omega)]; omega]
    exact hb
  | d + 1, j, hj, hn => by
    have hlen := F.len
    refine Ends.succ ?_ (fun k => spec_CatOk.l1.eq_2 _ _ _ _ _ _ _ _ k)
    refine Ends.pos (by omega) (Ends.pos (by omega) (Ends.pos (by omega) ?_))
    rw [rd_gt, show wrap64 ((j : Int) + 1) = ((j + 1 : Nat) : Int) by rw [w64 (by omega) (by omega)]; omega]
    exact Ends.neg (hn j (Nat.le_refl _) (by omega)) (sIn last l F i hi f0 f1 e f3 hb d (j + 1) (by omega) (fun m h1 h2 => hn m (by omega) h2))
theorem sInBad (last : Int) (l : List S38) (F : Fit l) (i : Nat) (hi : i < l.length) (f0 : Int) (f1 : ByteArray) (e : Int) (f3 : ByteArray) (m : Nat) (hm : m < i) (he : (gt l m).f2 = e) : ∀ (d j : Nat), j + d = m → Ends (fun k => spec_CatOk.l1 k (i : Int) (j : Int) last l f0 f1 e f3) false
  | 0, j, hj => by
    obtain rfl : j = m := by omega
    refine Ends.succ ?_ (fun k => spec_CatOk.l1.eq_2 _ _ _ _ _ _ _ _ k)
    refine Ends.pos (by omega) (Ends.pos (by omega) (Ends.pos (by omega) ?_))
    rw [rd_gt]
    exact Ends.pos he (Ends.pure fun k => rfl)
  | d + 1, j, hj => by
    have hlen := F.len
    refine Ends.succ ?_ (fun k => spec_CatOk.l1.eq_2 _ _ _ _ _ _ _ _ k)
    refine Ends.pos (by omega) (Ends.pos (by omega) (Ends.pos (by omega) ?_))
    rw [rd_gt, show wrap64 ((j : Int) + 1) = ((j + 1 : Nat) : Int) by rw [w64 (by omega) (by omega)]; omega]
    by_cases h : (gt l j).f2 = e
    · exact Ends.pos h (Ends.pure fun k => rfl)
    · exact Ends.neg h (sInBad last l F i hi f0 f1 e f3 m hm he d (j + 1) (by omega))
theorem sOk_loop (last : Int) (l : List S38) (F : Fit l) : ∀ (d i : Nat), i + d = l.length → (∀ j, j < i → okAt last l j) → ∃ b, Ends (fun k => spec_CatOk.l0 k (i : Int) last l) b ∧ (b = true ↔ (∀ j, j < l.length → okAt last l j) ∧ bytesP l)
  | 0, i, hi, hn => by
    obtain ⟨b, hb, hq⟩ := sTail last l F
    refine ⟨b, Ends.succ ?_ (fun k => spec_CatOk.l0.eq_2 _ _ _ k), ?_⟩
    · exact Ends.neg (by omega) hb
    · rw [hq]
      exact ⟨fun q => ⟨fun j hj => hn j (by omega), q⟩, fun q => q.2⟩
  | d + 1, i, hi, hn => by
    have hlen := F.len
    have no : ¬ okAt last l i → (false = true ↔ (∀ j, j < l.length → okAt last l j) ∧ bytesP l) := fun h => ⟨fun q => (by cases q), fun q => absurd (q.1 i (by omega)) h⟩
    have stop : Ends (fun k => spec_CatOk.j2 k (i : Int) true last l (gt l i).f0 (gt l i).f1 (gt l i).f2 (gt l i).f3) false := by
      refine Ends.succ ?_ (fun k => spec_CatOk.j2.eq_2 _ _ _ _ _ _ _ _ k)
      exact Ends.pos rfl (Ends.pure fun k => rfl)
    obtain ⟨b1, e1, q1⟩ := sOk_f (gt l i).f0 (gt l i).f1 (gt l i).f2 (gt l i).f3 (F.name i)
    have go : ∀ {b}, Ends (fun k => (spec_l9Ok.f k (gt l i).f0 (gt l i).f1 (gt l i).f2 (gt l i).f3).bind fun t222 => (if t222 = true then ((spec_l1In.f ((gt l i).f2) 1 last).bind fun t223 => (if t223 = true then (if (i : Int) > 0 then (if 0 ≤ (wrap64 ((i : Int) - 1)) then (if (wrap64 ((i : Int) - 1)) < (l.length : Int) then ((spec_l9Less.f k ((rd_T38 l (wrap64 ((i : Int) - 1))).f0) ((rd_T38 l (wrap64 ((i : Int) - 1))).f1) ((rd_T38 l (wrap64 ((i : Int) - 1))).f2) ((rd_T38 l (wrap64 ((i : Int) - 1))).f3) ((gt l i).f0) ((gt l i).f1)).bind fun t225 => (spec_CatOk.j2 k (i : Int) (!t225) last l ((gt l i).f0) ((gt l i).f1) ((gt l i).f2) ((gt l i).f3))) else (none)) else (none)) else (spec_CatOk.j2 k (i : Int) false last l ((gt l i).f0) ((gt l i).f1) ((gt l i).f2) ((gt l i).f3))) else (spec_CatOk.j2 k (i : Int) true last l ((gt l i).f0) ((gt l i).f1) ((gt l i).f2) ((gt l i).f3)))) else (spec_CatOk.j2 k (i : Int) true last l ((gt l i).f0) ((gt l i).f1) ((gt l i).f2) ((gt l i).f3)))) b → Ends (fun k => spec_CatOk.l0 k (i : Int) last l) b := fun h => by
      refine Ends.succ ?_ (fun k => spec_CatOk.l0.eq_2 _ _ _ k)
      refine Ends.pos (by omega) (Ends.pos (by omega) ?_)
      rw [rd_gt]
      exact h
    cases b1 with
    | false =>
      exact ⟨false, go (Ends.bind e1 (Ends.neg (by simp) stop)), no fun h => absurd (q1.2 h.1) (by simp)⟩
    | true =>
      have t1 := q1.1 rfl
      by_cases h2 : 1 ≤ (gt l i).f2 ∧ (gt l i).f2 ≤ last
      · -- the rest, once the order holds
        have rest : (0 < i → lt2 (gt l (i - 1)) (gt l i)) → ∃ b, Ends (fun k => spec_CatOk.j2 k (i : Int) false last l (gt l i).f0 (gt l i).f1 (gt l i).f2 (gt l i).f3) b ∧ (b = true ↔ (∀ j, j < l.length → okAt last l j) ∧ bytesP l) := fun hlt => by
          by_cases h3 : ∀ m, m < i → (gt l m).f2 ≠ (gt l i).f2
          · obtain ⟨b, hb, hq⟩ := sOk_loop last l F d (i + 1) (by omega) (fun j hj => by
              by_cases e : j = i
              · subst e; exact ⟨t1, h2, hlt, h3⟩
              · exact hn j (by omega))
            refine ⟨b, Ends.succ ?_ (fun k => spec_CatOk.j2.eq_2 _ _ _ _ _ _ _ _ k), hq⟩
            exact Ends.neg (by simp) (sIn last l F i (by omega) _ _ _ _ hb i 0 (by omega) (fun m _ hm => h3 m hm))
          · have h4 : ∃ m, m < i ∧ (gt l m).f2 = (gt l i).f2 := by
              refine Classical.byContradiction fun hc => h3 fun m hm e => hc ⟨m, hm, e⟩
            obtain ⟨m, hm, he⟩ := h4
            refine ⟨false, Ends.succ ?_ (fun k => spec_CatOk.j2.eq_2 _ _ _ _ _ _ _ _ k), no fun h => h.2.2.2 m hm he⟩
            exact Ends.neg (by simp) (sInBad last l F i (by omega) _ _ _ _ m hm he m 0 (by omega))
        by_cases h0 : 0 < i
        · have w1 : wrap64 ((i : Int) - 1) = ((i - 1 : Nat) : Int) := by rw [w64 (by omega) (by omega)]; omega
          obtain ⟨b3, e3, q3⟩ := sLess_f (gt l (i - 1)) (gt l i).f0 (gt l i).f1
          have into : ∀ {b}, Ends (fun k => spec_CatOk.j2 k (i : Int) (!b3) last l (gt l i).f0 (gt l i).f1 (gt l i).f2 (gt l i).f3) b → Ends (fun k => spec_CatOk.l0 k (i : Int) last l) b := fun h => by
            refine go (Ends.bind e1 (Ends.pos rfl ?_))
            simp only [in_f, Option.bind_some]
            refine Ends.pos (by simpa using h2) (Ends.pos (by omega) ?_)
            rw [w1]
            refine Ends.pos (by omega) (Ends.pos (by omega) ?_)
            rw [rd_gt]
            exact Ends.bind e3 h
          cases b3 with
          | true =>
            obtain ⟨b, hb, hq⟩ := rest (fun _ => q3.1 rfl)
            exact ⟨b, into hb, hq⟩
          | false => exact ⟨false, into stop, no fun h => absurd (q3.2 (h.2.2.1 h0)) (by simp)⟩
        · obtain ⟨b, hb, hq⟩ := rest (fun h => absurd h h0)
          refine ⟨b, go (Ends.bind e1 (Ends.pos rfl ?_)), hq⟩
          simp only [in_f, Option.bind_some]
          exact Ends.pos (by simpa using h2) (Ends.neg (by omega) hb)
      · refine ⟨false, go (Ends.bind e1 (Ends.pos rfl ?_)), no fun h => h2 h.2.1⟩
        simp only [in_f, Option.bind_some]
        exact Ends.neg (by simpa using h2) stop
theorem sCatOk (last : Int) (l : List S38) (F : Fit l) : Ends (fun k => spec_CatOk.f k last l) (catB last l) := by
  unfold spec_CatOk.f
  simp only [in_f, Option.bind_some]
  have stop : Ends (fun k => spec_CatOk.j0 k true last l) false := by
    refine Ends.succ ?_ (fun k => spec_CatOk.j0.eq_2 _ _ _ k)
    exact Ends.pos rfl (Ends.pure fun k => rfl)
  by_cases h1 : 0 ≤ last ∧ last ≤ 99999
  · by_cases h2 : (l.length : Int) > 8
    · rw [← eq_catB (b := false) ⟨fun q => (by cases q), fun q => by have := q.2.1; omega⟩]
      refine Ends.pos (by simpa using h1) ?_
      rw [decide_eq_true h2]
      exact stop
    · obtain ⟨b, hb, hq⟩ := sOk_loop last l F l.length 0 (by omega) (fun j hj => by omega)
      rw [← eq_catB (b := b) (by rw [hq]; exact ⟨fun q => ⟨h1, by omega, q⟩, fun q => q.2.2⟩)]
      refine Ends.pos (by simpa using h1) ?_
      rw [decide_eq_false h2]
      refine Ends.succ ?_ (fun k => spec_CatOk.j0.eq_2 _ _ _ k)
      exact Ends.neg (by simp) hb
  · rw [← eq_catB (b := false) ⟨fun q => (by cases q), fun q => absurd q.1 h1⟩]
    exact Ends.neg (by simpa using h1) stop
theorem iOk_loop (last : Int) (l : List S38) (F : Fit l) : ∀ (d i : Nat), i + d = l.length → (∀ j, j < i → okAt last l j) → ∃ b, Ends (fun k => impl_CatOk.l0 k l (l.length : Int) (i : Int) last l) b ∧ (b = true ↔ (∀ j, j < l.length → okAt last l j) ∧ bytesP l)
  | 0, i, hi, hn => by
    obtain ⟨b, hb, hq⟩ := iTail last l F
    refine ⟨b, Ends.succ ?_ (fun k => impl_CatOk.l0.eq_2 _ _ _ _ _ k), ?_⟩
    · exact Ends.neg (by omega) hb
    · rw [hq]
      exact ⟨fun q => ⟨fun j hj => hn j (by omega), q⟩, fun q => q.2⟩
  | d + 1, i, hi, hn => by
    have hlen := F.len
    have no : ¬ okAt last l i → (false = true ↔ (∀ j, j < l.length → okAt last l j) ∧ bytesP l) := fun h => ⟨fun q => (by cases q), fun q => absurd (q.1 i (by omega)) h⟩
    have stop : Ends (fun k => impl_CatOk.j2 k l (l.length : Int) (i : Int) true last l) false := by
      refine Ends.succ ?_ (fun k => impl_CatOk.j2.eq_2 _ _ _ _ _ _ k)
      exact Ends.pos rfl (Ends.pure fun k => rfl)
    obtain ⟨b1, e1, q1⟩ := iOk_f (gt l i).f0 (gt l i).f1 (gt l i).f3 (F.name i)
    have go : ∀ {b}, Ends (fun k => (impl_publishable.f k (gt l i).f0 (gt l i).f1 (gt l i).f3).bind fun t124 => (if t124 = true then ((impl_within.f ((gt l i).f2) 1 last).bind fun t125 => (if t125 = true then ((impl_Cat_edition.f last l ((gt l i).f2)).bind fun t126 => (if t126 = (i : Int) then (if (i : Int) > 0 then (if 0 ≤ (wrap64 ((i : Int) - 1)) then (if (wrap64 ((i : Int) - 1)) < (l.length : Int) then ((impl_itemOrder.f k ((rd_T38 l (wrap64 ((i : Int) - 1))).f0) ((rd_T38 l (wrap64 ((i : Int) - 1))).f1) ((rd_T38 l (wrap64 ((i : Int) - 1))).f2) ((rd_T38 l (wrap64 ((i : Int) - 1))).f3) ((gt l i).f0) ((gt l i).f1) ((gt l i).f2) ((gt l i).f3)).bind fun t128 => (impl_CatOk.j2 k l (l.length : Int) (i : Int) (decide (t128 ≥ 0)) last l)) else (none)) else (none)) else (impl_CatOk.j2 k l (l.length : Int) (i : Int) false last l)) else (impl_CatOk.j2 k l (l.length : Int) (i : Int) true last l))) else (impl_CatOk.j2 k l (l.length : Int) (i : Int) true last l))) else (impl_CatOk.j2 k l (l.length : Int) (i : Int) true last l))) b → Ends (fun k => impl_CatOk.l0 k l (l.length : Int) (i : Int) last l) b := fun h => by
      refine Ends.succ ?_ (fun k => impl_CatOk.l0.eq_2 _ _ _ _ _ k)
      refine Ends.pos (by omega) (Ends.pos (by omega) (Ends.pos (by omega) ?_))
      rw [rd_gt]
      exact h
    cases b1 with
    | false =>
      exact ⟨false, go (Ends.bind e1 (Ends.neg (by simp) stop)), no fun h => absurd (q1.2 h.1) (by simp)⟩
    | true =>
      have t1 := q1.1 rfl
      by_cases h2 : 1 ≤ (gt l i).f2 ∧ (gt l i).f2 ≤ last
      · by_cases h3 : ∀ m, m < i → (gt l m).f2 ≠ (gt l i).f2
        · have ef := (ed_first l i (by omega)).2 h3
          have rest : (0 < i → lt2 (gt l (i - 1)) (gt l i)) → ∃ b, Ends (fun k => impl_CatOk.j2 k l (l.length : Int) (i : Int) false last l) b ∧ (b = true ↔ (∀ j, j < l.length → okAt last l j) ∧ bytesP l) := fun hlt => by
            obtain ⟨b, hb, hq⟩ := iOk_loop last l F d (i + 1) (by omega) (fun j hj => by
              by_cases e : j = i
              · subst e; exact ⟨t1, h2, hlt, h3⟩
              · exact hn j (by omega))
            refine ⟨b, Ends.succ ?_ (fun k => impl_CatOk.j2.eq_2 _ _ _ _ _ _ k), hq⟩
            refine Ends.neg (by simp) ?_
            rw [show wrap64 ((i : Int) + 1) = ((i + 1 : Nat) : Int) by rw [w64 (by omega) (by omega)]; omega]
            exact hb
          by_cases h0 : 0 < i
          · have w1 : wrap64 ((i : Int) - 1) = ((i - 1 : Nat) : Int) := by rw [w64 (by omega) (by omega)]; omega
            have e3 := order_f (gt l (i - 1)) (gt l i)
            have into : ∀ {b}, Ends (fun k => impl_CatOk.j2 k l (l.length : Int) (i : Int) (decide (orderI (gt l (i - 1)) (gt l i) ≥ 0)) last l) b → Ends (fun k => impl_CatOk.l0 k l (l.length : Int) (i : Int) last l) b := fun h => by
              refine go (Ends.bind e1 (Ends.pos rfl ?_))
              simp only [within_f, Option.bind_some]
              refine Ends.pos (by simpa using h2) ?_
              rw [iEd_f _ _ _ (by omega)]
              simp only [Option.bind_some]
              refine Ends.pos ef (Ends.pos (by omega) ?_)
              rw [w1]
              refine Ends.pos (by omega) (Ends.pos (by omega) ?_)
              rw [rd_gt]
              exact Ends.bind e3 h
            by_cases h4 : lt2 (gt l (i - 1)) (gt l i)
            · obtain ⟨b, hb, hq⟩ := rest (fun _ => h4)
              exact ⟨b, into (by rw [decide_eq_false (fun h => (order_ge _ _).1 h h4)]; exact hb), hq⟩
            · exact ⟨false, into (by rw [decide_eq_true ((order_ge _ _).2 h4)]; exact stop), no fun h => h4 (h.2.2.1 h0)⟩
          · obtain ⟨b, hb, hq⟩ := rest (fun h => absurd h h0)
            refine ⟨b, go (Ends.bind e1 (Ends.pos rfl ?_)), hq⟩
            simp only [within_f, Option.bind_some]
            refine Ends.pos (by simpa using h2) ?_
            rw [iEd_f _ _ _ (by omega)]
            simp only [Option.bind_some]
            exact Ends.pos ef (Ends.neg (by omega) hb)
        · have ef := fun h => h3 ((ed_first l i (by omega)).1 h)
          refine ⟨false, go (Ends.bind e1 (Ends.pos rfl ?_)), no fun h => h3 h.2.2.2⟩
          simp only [within_f, Option.bind_some]
          refine Ends.pos (by simpa using h2) ?_
          rw [iEd_f _ _ _ (by omega)]
          simp only [Option.bind_some]
          exact Ends.neg ef stop
      · refine ⟨false, go (Ends.bind e1 (Ends.pos rfl ?_)), no fun h => h2 h.2.1⟩
        simp only [within_f, Option.bind_some]
        exact Ends.neg (by simpa using h2) stop
theorem iCatOk (last : Int) (l : List S38) (F : Fit l) : Ends (fun k => impl_CatOk.f k last l) (catB last l) := by
  unfold impl_CatOk.f
  simp only [within_f, Option.bind_some]
  have stop : Ends (fun k => impl_CatOk.j0 k true last l) false := by
    refine Ends.succ ?_ (fun k => impl_CatOk.j0.eq_2 _ _ _ k)
    exact Ends.pos rfl (Ends.pure fun k => rfl)
  by_cases h1 : 0 ≤ last ∧ last ≤ 99999
  · by_cases h2 : (l.length : Int) > 8
    · rw [← eq_catB (b := false) ⟨fun q => (by cases q), fun q => by have := q.2.1; omega⟩]
      refine Ends.pos (by simpa using h1) ?_
      rw [decide_eq_true h2]
      exact stop
    · obtain ⟨b, hb, hq⟩ := iOk_loop last l F l.length 0 (by omega) (fun j hj => by omega)
      rw [← eq_catB (b := b) (by rw [hq]; exact ⟨fun q => ⟨h1, by omega, q⟩, fun q => q.2.2⟩)]
      refine Ends.pos (by simpa using h1) ?_
      rw [decide_eq_false h2]
      refine Ends.succ ?_ (fun k => impl_CatOk.j0.eq_2 _ _ _ k)
      exact Ends.neg (by simp) hb
  · rw [← eq_catB (b := false) ⟨fun q => (by cases q), fun q => absurd q.1 h1⟩]
    exact Ends.neg (by simpa using h1) stop
end Go.Proofs.Ytoohbmoljdfbjaa.P
