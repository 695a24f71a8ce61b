/- Plain law of the catalogue, fifth part: what is drawn. -/
import Derived.Test.YtoohbmoljdfbjaaPCat4
set_option linter.unusedVariables false
set_option linter.unusedSimpArgs false
namespace Go.Proofs.Ytoohbmoljdfbjaa.P
open Go.RowKit Go.Proofs.YtoohbmoljdfbjaaW.PrintWords Go.Proofs.YtoohbmoljdfbjaaW.PrintMore
theorem strSize (l : List Int) : (strOfNums l).size = l.length := by simp [strOfNums, ByteArray.size]
/-- so small as all that is drawn. -/
structure Small (l : List S38) : Prop where
  len : l.length ≤ 9
  sizes : ∀ x ∈ l, x.f1.size ≤ 1000 ∧ x.f3.size ≤ 1000
theorem bytesN_bound (h : Int) : ∀ (l : List S38), (∀ x ∈ l, x.f3.size ≤ 1000) → bytesN h l ≤ 1000 * l.length
  | [], _ => by simp [bytesN]
  | x :: l, hs => by
    have ih := bytesN_bound h l (fun y hy => hs y (by simp [hy]))
    have := hs x (by simp)
    rw [bytesN_cons]
    unfold wt
    simp only [List.length_cons]
    split <;> omega
theorem Small.fit {l : List S38} (s : Small l) : Fit l := by
  have hl := s.len
  refine ⟨by omega, fun i => ?_, fun h => ?_⟩
  · by_cases hi : i < l.length
    · rw [gt_at l i hi]
      have := (s.sizes _ (List.getElem_mem hi)).1
      omega
    · have : gt l i = z38 := by unfold gt; simp [hi]
      rw [this]
      decide
  · have := bytesN_bound h l (fun x hx => (s.sizes x hx).2)
    omega
theorem CatQ.small {last : Int} {l : List S38} (q : CatQ last l) : Small l := by
  have hl := q.len
  refine ⟨by omega, fun x hx => ?_⟩
  have := (q.thing x hx).1
  have h1 := this.2.1.2.2
  have h2 := this.2.2.2
  exact ⟨by omega, by omega⟩
theorem Small.set {l : List S38} (s : Small l) (i : Nat) (x : S38) (hx : x.f1.size ≤ 1000 ∧ x.f3.size ≤ 1000) : Small (l.set i x) := by
  refine ⟨by rw [List.length_set]; exact s.len, fun y hy => ?_⟩
  rcases List.mem_or_eq_of_mem_set hy with h | rfl
  · exact s.sizes y h
  · exact hx
theorem thing_loop {b : List Int} (hb : Bytes b) (n : Nat) (hn : n ≤ 1000) : ∀ (d i : Nat) (xs : List Int) (p : Int), i + d = n → xs.length = i → 0 ≤ p → p + d < 1000000 →
    ∃ (r : ByteArray) (q : Int), Ends (fun k => spec_l15Thing.l0 k (n : Int) xs (i : Int) b p) (r, q) ∧ r.size = n ∧ 0 ≤ q ∧ q ≤ p + d
  | 0, i, xs, p, h, hx, hp, hp2 => by
    refine ⟨strOfNums xs, p, Ends.succ ?_ (fun k => spec_l15Thing.l0.eq_2 _ _ _ _ _ k), by rw [strSize]; omega, hp, by omega⟩
    exact Ends.neg (by omega) (Ends.pure fun k => rfl)
  | d + 1, i, xs, p, h, hx, hp, hp2 => by
    obtain ⟨v, h1, h2, h3, _⟩ := pick_ends hb (n := 8) (p := p) hp (by omega) (by decide)
    have h4 := h3 (by decide)
    obtain ⟨r, q, e1, e2, e3, e4⟩ := thing_loop hb n hn d (i + 1) (xs ++ [bt (⟨#[97, 98, 99, 100, 101, 102, 103, 104]⟩ : ByteArray) v]) (p + 1) (by omega) (by simp; omega) (by omega) (by omega)
    refine ⟨r, q, Ends.succ ?_ (fun k => spec_l15Thing.l0.eq_2 _ _ _ _ _ k), e2, e3, by omega⟩
    refine Ends.pos (by omega) (Ends.bind h1 (Ends.pos h2 (Ends.pos h4 (Ends.pos (by omega) ?_))))
    rw [w64 (by omega) (by omega), show (i : Int) + 1 = ((i + 1 : Nat) : Int) by omega]
    exact e1
theorem thing_f {b : List Int} (hb : Bytes b) (n : Nat) (hn : n ≤ 1000) {p : Int} (hp : 0 ≤ p) (hp2 : p < 100000) : ∃ (r : ByteArray) (q : Int), Ends (fun k => spec_l15Thing.f k b p (n : Int)) (r, q) ∧ r.size = n ∧ 0 ≤ q ∧ q ≤ p + n :=
  thing_loop hb n hn n 0 [] p (by omega) rfl hp (by omega)
theorem isThing_sizes (h : Int) (n : ByteArray) (x : S38) : True := trivial
theorem takeR_q {last : Int} {l : List S38} (q : CatQ last l) (h : Int) (n : ByteArray) : CatQ (takeR last l h n).1 (takeR last l h n).2.1 := by
  unfold takeR
  rw [if_pos (catB_q.2 q)]
  have hr := first_range (isThing h n) l
  by_cases h1 : firstAt (isThing h n) l < 0
  · rw [if_pos h1]
    exact q
  · rw [if_neg h1]
    exact erase_q q _ (by omega)
theorem putR_q {last : Int} {l : List S38} (q : CatQ last l) (h : Int) (n t : ByteArray) : CatQ (putR last l h n t).1 (putR last l h n t).2.1 := by
  unfold putR
  rw [if_pos (catB_q.2 q)]
  cases hth : thingB h n t with
  | false => rw [if_neg (by simp)]; exact q
  | true =>
    rw [if_pos rfl]
    by_cases h1 : 0 ≤ firstAt (isThing h n) l
    · rw [if_pos h1]; exact q
    · rw [if_neg h1]
      by_cases h2 : 8 ≤ l.length ∨ 99999 ≤ last ∨ 500 < bytesN h l + t.size
      · rw [if_pos h2]; exact q
      · rw [if_neg h2]
        exact ins_q q ⟨h, n, last + 1, t⟩ (thingB_true.1 hth) rfl (not_there h1 _ _) (by omega) (by omega) (by show bytesN h l + t.size ≤ 500; omega)
theorem cat_loop {b : List Int} (hb : Bytes b) : ∀ (d : Nat) (last : Int) (l : List S38) (p : Int), CatQ last l → 0 ≤ p → p + 400 * d < 100000 →
    ∃ (last' : Int) (l' : List S38) (q : Int), Ends (fun k => spec_l15Cat.l0 k (d : Int) b p last l) (last', l', q) ∧ CatQ last' l' ∧ 0 ≤ q ∧ q ≤ p + 400 * d
  | 0, last, l, p, hq, hp, hp2 => by
    refine ⟨last, l, p, Ends.succ ?_ (fun k => spec_l15Cat.l0.eq_2 _ _ _ _ _ k), hq, hp, by omega⟩
    exact Ends.neg (by decide) (Ends.pure fun k => rfl)
  | d + 1, last, l, p, hq, hp, hp2 => by
    have w : wrap64 (((d + 1 : Nat) : Int) - 1) = (d : Int) := by rw [w64 (by omega) (by omega)]; omega
    obtain ⟨n, h1, hn⟩ := of_ends hb hp (by omega) [(⟨#[97]⟩ : ByteArray), (⟨#[98]⟩ : ByteArray), (⟨#[99, 99]⟩ : ByteArray), (⟨#[100]⟩ : ByteArray)] (by simp) (by simp)
    have hns : n.size ≤ 2 := by
      simp only [List.mem_cons, List.not_mem_nil, or_false] at hn
      rcases hn with rfl | rfl | rfl | rfl <;> decide
    obtain ⟨v, h2, h3, h4, _⟩ := pick_ends hb (n := 4) (p := p + 1) (by omega) (by omega) (by decide)
    obtain ⟨u, g1, g2, g3, _⟩ := pick_ends hb (n := 2) (p := p + 1 + 1) (by omega) (by omega) (by decide)
    by_cases hv : v = 0
    · have ht := sTake_f last l hq.small.fit u n
      have hq2 := takeR_q hq u n
      obtain ⟨last', l', q, e1, e2, e3, e4⟩ := cat_loop hb d _ _ (p + 1 + 1 + 1) hq2 (by omega) (by omega)
      refine ⟨last', l', q, Ends.succ ?_ (fun k => spec_l15Cat.l0.eq_2 _ _ _ _ _ k), e2, e3, by omega⟩
      refine Ends.pos (by omega) (Ends.bind h1 (Ends.bind h2 (Ends.pos hv (Ends.bind g1 (Ends.bind ht ?_)))))
      rw [w]
      exact e1
    · obtain ⟨m, f1, f2, f3, _⟩ := pick_ends hb (n := 300) (p := p + 1 + 1 + 1) (by omega) (by omega) (by decide)
      have f4 := f3 (by decide)
      have w2 : wrap64 (1 + m) = ((m.toNat + 1 : Nat) : Int) := by rw [w64 (by omega) (by omega)]; omega
      obtain ⟨t, q0, k1, k2, k3, k4⟩ := thing_f hb (m.toNat + 1) (by omega) (p := p + 1 + 1 + 1 + 1) (by omega) (by omega)
      have ht := sPut_f last l hq.small.fit u n t (by omega) (by omega)
      have hq2 := putR_q hq u n t
      obtain ⟨last', l', q, e1, e2, e3, e4⟩ := cat_loop hb d _ _ q0 hq2 (by omega) (by omega)
      refine ⟨last', l', q, Ends.succ ?_ (fun k => spec_l15Cat.l0.eq_2 _ _ _ _ _ k), e2, e3, by omega⟩
      refine Ends.pos (by omega) (Ends.bind h1 (Ends.bind h2 (Ends.neg hv (Ends.bind g1 (Ends.bind f1 ?_)))))
      simp only [w2]
      refine Ends.bind k1 (Ends.bind ht ?_)
      rw [w]
      exact e1
theorem cat_empty : CatQ 0 [] := ⟨by omega, by simp, fun x hx => by simp at hx, List.Pairwise.nil, List.Pairwise.nil, by simp [bytesP, bytesN]⟩
theorem cat_f {b : List Int} (hb : Bytes b) {p : Int} (hp : 0 ≤ p) (hp2 : p < 10000) : ∃ (last' : Int) (l' : List S38) (q : Int), Ends (fun k => spec_l15Cat.f k b p) (last', l', q) ∧ CatQ last' l' ∧ 0 ≤ q ∧ q ≤ p + 5000 := by
  obtain ⟨v, h1, h2, h3, _⟩ := pick_ends hb (n := 10) hp (by omega) (by decide)
  have h4 := h3 (by decide)
  obtain ⟨d, rfl⟩ := Int.eq_ofNat_of_zero_le h2
  obtain ⟨last', l', q, e1, e2, e3, e4⟩ := cat_loop hb d 0 [] (p + 1) cat_empty (by omega) (by omega)
  exact ⟨last', l', q, Ends.bind h1 e1, e2, e3, by omega⟩
theorem anyCat_f {b : List Int} (hb : Bytes b) {p : Int} (hp : 0 ≤ p) (hp2 : p < 10000) : ∃ (last' : Int) (l' : List S38) (q : Int), Ends (fun k => spec_l15AnyCat.f k b p) (last', l', q) ∧ Small l' ∧ 0 ≤ q ∧ q ≤ p + 6000 := by
  obtain ⟨last, l, q0, h1, hq, h2, h3⟩ := cat_f hb hp hp2
  have S := hq.small
  have hl8 := hq.len
  unfold spec_l15AnyCat.f
  by_cases hlen : (l.length : Int) = 0
  · exact ⟨last, l, q0, Ends.bind h1 (Ends.pos hlen (Ends.pure fun k => rfl)), S, h2, by omega⟩
  · obtain ⟨v, g1, g2, g3, _⟩ := pick_ends hb (n := 12) (p := q0) h2 (by omega) (by decide)
    by_cases hv : v > 0
    · exact ⟨last, l, q0 + 1, Ends.bind h1 (Ends.neg hlen (Ends.bind g1 (Ends.pos hv (Ends.pure fun k => rfl)))), S, by omega, by omega⟩
    · obtain ⟨j, f1, f2, f3, _⟩ := pick_ends hb (n := (l.length : Int)) (p := q0 + 1) (by omega) (by omega) (by omega)
      have f4 := f3 (by omega)
      obtain ⟨m, e1, e2, e3, _⟩ := pick_ends hb (n := 6) (p := q0 + 1 + 1) (by omega) (by omega) (by decide)
      have c1 : Ends (fun k => spec_l9Copy.f last l) (last, l) := Ends.pure fun k => sCopy_f last l (by omega)
      have hj : j.toNat < l.length := by omega
      have hsz : ∀ i, (gt l i).f1.size ≤ 1000 ∧ (gt l i).f3.size ≤ 1000 := fun i => by
        by_cases hi : i < l.length
        · rw [gt_at l i hi]
          exact S.sizes _ (List.getElem_mem hi)
        · have : gt l i = z38 := by unfold gt; simp [hi]
          rw [this]
          decide
      have hrd : rd_T38 l j = gt l j.toNat := rfl
      have hs := hsz j.toNat
      by_cases m0 : m = 0
      · exact ⟨_, _, _, (Ends.bind h1 (Ends.neg hlen (Ends.bind g1 (Ends.neg hv (Ends.bind c1 (Ends.bind f1 (Ends.bind e1 (Ends.pos m0 (Ends.pos f2 (Ends.pos f4 (Ends.pure fun k => rfl))))))))))), S.set _ _ hs, by omega, by omega⟩
      · by_cases m1 : m = 1
        · obtain ⟨n, k1, k2⟩ := of_ends hb (p := q0 + 1 + 1 + 1) (by omega) (by omega) [(⟨#[]⟩ : ByteArray), (⟨#[122, 122]⟩ : ByteArray)] (by simp) (by simp)
          have hns : n.size ≤ 2 := by
            simp only [List.mem_cons, List.not_mem_nil, or_false] at k2
            rcases k2 with rfl | rfl <;> decide
          exact ⟨_, _, _, (Ends.bind h1 (Ends.neg hlen (Ends.bind g1 (Ends.neg hv (Ends.bind c1 (Ends.bind f1 (Ends.bind e1 (Ends.neg m0 (Ends.pos m1 (Ends.bind k1 (Ends.pos f2 (Ends.pos f4 (Ends.pure fun k => rfl))))))))))))), S.set _ _ ⟨by show n.size ≤ 1000; omega, hs.2⟩, by omega, by omega⟩
        · obtain ⟨z, k1, k2, k3, _⟩ := pick_ends hb (n := 3) (p := q0 + 1 + 1 + 1) (by omega) (by omega) (by decide)
          have k4 := k3 (by decide)
          by_cases m2 : m = 2
          · exact ⟨_, _, _, (Ends.bind h1 (Ends.neg hlen (Ends.bind g1 (Ends.neg hv (Ends.bind c1 (Ends.bind f1 (Ends.bind e1 (Ends.neg m0 (Ends.neg m1 (Ends.pos m2 (Ends.pos (by show (0 : Int) < (l.length : Int); omega) (Ends.bind (Ends.pure fun k => rfl) (Ends.bind k1 (Ends.pos k2 (Ends.pos (by show z < ((3 : Nat) : Int); omega) (Ends.pos f2 (Ends.pos f4 (Ends.pure fun k => rfl)))))))))))))))))), S.set _ _ hs, by omega, by omega⟩
          · by_cases m3 : m = 3
            · have hz : ∃ N : Nat, rd ([0, 301, 300] : List Int) z = (N : Int) ∧ N ≤ 301 := by
                have : z = 0 ∨ z = 1 ∨ z = 2 := by omega
                rcases this with rfl | rfl | rfl
                · exact ⟨0, rfl, by omega⟩
                · exact ⟨301, rfl, by omega⟩
                · exact ⟨300, rfl, by omega⟩
              obtain ⟨N, hN, hN2⟩ := hz
              obtain ⟨t, t1, t2⟩ := many_f (⟨#[116]⟩ : ByteArray) rfl N (by omega)
              rw [← hN] at t1
              exact ⟨_, _, _, (Ends.bind h1 (Ends.neg hlen (Ends.bind g1 (Ends.neg hv (Ends.bind c1 (Ends.bind f1 (Ends.bind e1 (Ends.neg m0 (Ends.neg m1 (Ends.neg m2 (Ends.pos m3 (Ends.bind (Ends.pure fun k => rfl) (Ends.bind k1 (Ends.pos k2 (Ends.pos (by show z < ((3 : Nat) : Int); omega) (Ends.bind t1 (Ends.pos f2 (Ends.pos f4 (Ends.pure fun k => rfl))))))))))))))))))), S.set _ _ ⟨hs.1, by show t.size ≤ 1000; omega⟩, by omega, by omega⟩
            · by_cases m4 : m = 4
              · exact ⟨_, _, _, (Ends.bind h1 (Ends.neg hlen (Ends.bind g1 (Ends.neg hv (Ends.bind c1 (Ends.bind f1 (Ends.bind e1 (Ends.neg m0 (Ends.neg m1 (Ends.neg m2 (Ends.neg m3 (Ends.pos m4 (Ends.pure fun k => rfl))))))))))))), S, by omega, by omega⟩
              · refine ⟨_, _, _, (Ends.bind h1 (Ends.neg hlen (Ends.bind g1 (Ends.neg hv (Ends.bind c1 (Ends.bind f1 (Ends.bind e1 (Ends.neg m0 (Ends.neg m1 (Ends.neg m2 (Ends.neg m3 (Ends.neg m4 (Ends.pos f2 (Ends.pos f4 (Ends.pos (by show l.length < 2932031007402; omega) (Ends.pure fun k => rfl)))))))))))))))), ⟨by simp; omega, fun x hx => ?_⟩, by omega, by omega⟩
                rcases List.mem_append.1 hx with hx | hx
                · exact S.sizes x hx
                · simp only [List.mem_singleton] at hx
                  subst hx
                  exact hs
end Go.Proofs.Ytoohbmoljdfbjaa.P
