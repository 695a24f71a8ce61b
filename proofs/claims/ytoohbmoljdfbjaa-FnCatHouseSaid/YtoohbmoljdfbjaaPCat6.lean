/- Plain law of the catalogue, sixth part: the law of the houses. -/
import Derived.Test.YtoohbmoljdfbjaaPCat5
set_option linter.unusedVariables false
set_option linter.unusedSimpArgs false
namespace Go.Proofs.Ytoohbmoljdfbjaa.P
open Go.RowKit Go.Proofs.YtoohbmoljdfbjaaW.PrintWords Go.Proofs.YtoohbmoljdfbjaaW.PrintMore
theorem share {v a b : Int} (h : 0 ≤ v) (hv : v < 1000000) (ha : 0 ≤ a) (ha2 : a ≤ 1000) (hb : 0 < b) : wrap64 (Int.tdiv (wrap64 (v * a)) b) = v * a / b := by
  have h1 : 0 ≤ v * a := Int.mul_nonneg h ha
  have h2 : v * a ≤ 1000000 * 1000 := Int.mul_le_mul (by omega) ha2 ha (by omega)
  have e1 : wrap64 (v * a) = v * a := w64 (by omega) (by omega)
  rw [e1, Int.tdiv_eq_ediv_of_nonneg h1]
  have h3 : 0 ≤ v * a / b := Int.ediv_nonneg h1 (by omega)
  have h4 : v * a / b ≤ v * a := Int.ediv_le_self _ h1
  exact w64 (by omega) (by omega)
theorem drawPut_f {l0 : List Int} (h : ∀ x ∈ l0, (Lit.int .u8 x).wf = true) : ∃ (last : Int) (l : List S38) (hs : Int) (n t : ByteArray), Ends (fun k => spec_DrawCatPut.f k l0) (last, l, hs, n, t) ∧ Small l ∧ n.size ≤ 1000 ∧ t.size ≤ 1000 := by
  obtain ⟨b, hb, ho⟩ := open_bytes h
  obtain ⟨last, l, q, h1, h2, h3, h4⟩ := anyCat_f hb (p := 0) (by decide) (by decide)
  obtain ⟨v, g1, g2, g3, _⟩ := pick_ends hb (n := 18) (p := q) h3 (by omega) (by decide)
  have g4 := g3 (by decide)
  have gw : wrap64 (Int.tdiv (wrap64 (v * 6)) 18) = v * 6 / 18 := share g2 (by omega) (by decide) (by decide) (by decide)
  obtain ⟨n, k1, k2⟩ := of_ends hb (p := q + 1) (by omega) (by omega) [(⟨#[97]⟩ : ByteArray), (⟨#[98]⟩ : ByteArray), (⟨#[99, 99]⟩ : ByteArray), (⟨#[101]⟩ : ByteArray), (⟨#[102]⟩ : ByteArray), (⟨#[116, 111, 111, 108, 111, 110, 103]⟩ : ByteArray)] (by simp) (by simp)
  have hns : n.size ≤ 7 := by
    simp only [List.mem_cons, List.not_mem_nil, or_false] at k2
    rcases k2 with rfl | rfl | rfl | rfl | rfl | rfl <;> decide
  obtain ⟨x, e1, e2⟩ := of_ends hb (p := q + 1 + 1) (by omega) (by omega) [(⟨#[120]⟩ : ByteArray), (⟨#[121]⟩ : ByteArray)] (by simp) (by simp)
  have hx : x.size = 1 := by
    simp only [List.mem_cons, List.not_mem_nil, or_false] at e2
    rcases e2 with rfl | rfl <;> rfl
  obtain ⟨u, f1, f2, f3, _⟩ := pick_ends hb (n := 256) (p := q + 1 + 1 + 1) (by omega) (by omega) (by decide)
  have f4 := f3 (by decide)
  have fw : wrap64 (1 + u) = 1 + u := w64 (by omega) (by omega)
  obtain ⟨z, d1, d2, d3, _⟩ := pick_ends hb (n := 10) (p := q + 1 + 1 + 1 + 1) (by omega) (by omega) (by decide)
  have d4 := d3 (by decide)
  have dw : wrap64 (Int.tdiv (wrap64 (z * 4)) 10) = z * 4 / 10 := share d2 (by omega) (by decide) (by decide) (by decide)
  have hz : ∃ N : Nat, rd ([wrap64 (1 + u), 0, 300, 301] : List Int) (z * 4 / 10) = (N : Int) ∧ N ≤ 301 := by
    have : z * 4 / 10 = 0 ∨ z * 4 / 10 = 1 ∨ z * 4 / 10 = 2 ∨ z * 4 / 10 = 3 := by omega
    rcases this with h | h | h | h
    · rw [h]
      refine ⟨(1 + u).toNat, ?_, by omega⟩
      show wrap64 (1 + u) = _
      rw [fw]; omega
    · rw [h]; exact ⟨0, rfl, by omega⟩
    · rw [h]; exact ⟨300, rfl, by omega⟩
    · rw [h]; exact ⟨301, rfl, by omega⟩
  obtain ⟨N, hN, hN2⟩ := hz
  obtain ⟨t, t1, t2⟩ := many_f x hx N (by omega)
  rw [← hN] at t1
  refine ⟨last, l, rd ([0, 1, 0, 1, 2, (-1)] : List Int) (v * 6 / 18), n, t, ?_, h2, by omega, by omega⟩
  unfold spec_DrawCatPut.f
  simp only [ho, Option.bind_some]
  refine Ends.bind h1 (Ends.bind g1 ?_)
  show Ends (fun k => if 0 ≤ wrap64 (Int.tdiv (wrap64 (v * 6)) 18) then _ else _) _
  simp only [gw]
  refine Ends.pos (by omega) (Ends.pos (by show v * 6 / 18 < ((6 : Nat) : Int); omega) (Ends.bind k1 (Ends.bind e1 (Ends.bind f1 (Ends.bind d1 ?_)))))
  show Ends (fun k => if 0 ≤ wrap64 (Int.tdiv (wrap64 (z * 4)) 10) then _ else _) _
  simp only [dw]
  exact Ends.pos (by omega) (Ends.pos (by show z * 4 / 10 < ((4 : Nat) : Int); omega) (Ends.bind t1 (Ends.pure fun k => rfl)))
theorem bytes_ins (h : Int) (l : List S38) (x : S38) : bytesN h (insT l x) = bytesN h l + wt h x := by
  have : bytesN h (insT l x) = bytesN h (l ++ [x]) := by
    unfold bytesN
    exact ((insT_perm l x).map (wt h)).sum_nat
  rw [this, bytesN_app, bytesN_cons]
  rfl
theorem wt_other {h k : Int} {x : S38} (hx : x.f0 = h) (hk : k ≠ h) : wt k x = 0 := by
  unfold wt
  rw [if_neg (by rw [hx]; exact fun e => hk e.symm)]
theorem put_other (last : Int) (l : List S38) (hc : catB last l = true) (h k : Int) (n t : ByteArray) (hk : k ≠ h) : bytesN k (putR last l h n t).2.1 = bytesN k l := by
  unfold putR
  rw [if_pos hc]
  split
  · split
    · rfl
    · split
      · rfl
      · show bytesN k (insT l ⟨h, n, last + 1, t⟩) = _
        rw [bytes_ins, wt_other rfl hk]
        rfl
  · rfl
theorem take_other (last : Int) (l : List S38) (hc : catB last l = true) (h k : Int) (n : ByteArray) (hk : k ≠ h) : bytesN k (takeR last l h n).2.1 = bytesN k l := by
  unfold takeR
  rw [if_pos hc]
  rcases first_cases (isThing h n) l with ⟨i, hi, hil, hp, _⟩ | ⟨hi, _⟩
  · rw [hi, if_neg (by omega), Int.toNat_natCast]
    show bytesN k (l.eraseIdx i) = _
    have e := bytesN_erase k l i hil
    have hf : (gt l i).f0 = h := by
      unfold isThing at hp
      simp at hp
      exact hp.1
    rw [wt_other hf hk] at e
    omega
  · rw [hi, if_pos (by omega)]
theorem catBytes_f {last : Int} {l : List S38} (q : CatQ last l) (h : Int) : Ends (fun k => impl_CatBytes.f k last l h) ((bytesN h l : Nat) : Int) := by
  have e := iCatOk last l q.small.fit
  rw [catB_q.2 q] at e
  have hb := q.small.fit.bytes h
  have hl := q.len
  unfold impl_CatBytes.f
  exact Ends.bind e (Ends.pos rfl (Ends.bind (iBytes_f h last l (by omega) hb) (Ends.pure fun k => rfl)))
theorem wh_code (last : Int) (l : List S38) (hl : l.length < 1000000000) (h : Int) (n : ByteArray) (c : Int) (a : Int) (b : List S38) : Ends (fun k => laws_FnCatHouse.j0 k h n c c true a b last l last l) true := by
  refine Ends.succ ?_ (fun k => laws_FnCatHouse.j0.eq_2 _ _ _ _ _ _ _ _ _ _ _ k)
  exact Ends.pos rfl (Ends.pos rfl (Ends.bind (whCat_f last l hl) (Ends.pure fun k => rfl)))
theorem house_law {last : Int} {l : List S38} (q : CatQ last l) (h : Int) (n t : ByteArray) (hn : n.size ≤ 1000) (h0 : 0 ≤ h) (h1 : h ≤ 1) (c : Int) :
    Ends (fun k => laws_FnCatHouse.j0 k h n c c false last l (putR last l h n t).1 (putR last l h n t).2.1 (putR last l h n t).1 (putR last l h n t).2.1) true := by
  have qp := putR_q q h n t
  have qt := takeR_q qp h n
  have hp := put_other last l (catB_q.2 q) h (1 - h) n t (by omega)
  have ht := take_other (putR last l h n t).1 (putR last l h n t).2.1 (catB_q.2 qp) h (1 - h) n (by omega)
  have e1 := iTake_f (putR last l h n t).1 (putR last l h n t).2.1 qp.small.fit h n
  have e2 := catBytes_f qp (1 - h)
  have e3 := catBytes_f q (1 - h)
  have e4 := catBytes_f qt (1 - h)
  refine Ends.succ ?_ (fun k => laws_FnCatHouse.j0.eq_2 _ _ _ _ _ _ _ _ _ _ _ k)
  have w : wrap64 (1 - h) = 1 - h := w64 (by omega) (by omega)
  simp only [w]
  refine Ends.neg (by simp) (Ends.bind e1 (Ends.bind e2 (Ends.bind e3 (Ends.pos (by rw [hp]) (Ends.bind e4 (Ends.bind e3 (Ends.pure fun k => ?_)))))))
  rw [ht, hp]
  simp
theorem put_len {last : Int} {l : List S38} (S : Small l) (h : Int) (n t : ByteArray) : (putR last l h n t).2.1.length < 1000000000 := by
  have := S.len
  have hi := (insT_perm l ⟨h, n, last + 1, t⟩).length_eq
  simp only [List.length_append, List.length_cons, List.length_nil] at hi
  unfold putR
  split
  · split
    · split
      · show l.length < 1000000000; omega
      · split
        · show l.length < 1000000000; omega
        · show (insT l ⟨h, n, last + 1, t⟩).length < 1000000000
          omega
    · show l.length < 1000000000; omega
  · show ([] : List S38).length < 1000000000; simp
theorem fnHouse_pure : laws_FnCatHouse.Pure := by
  intro l0 hmax hsz hw
  by_cases hbig : (l0.length : Int) > 1048576
  · exact ⟨0, by unfold laws_FnCatHouse.f; rw [if_pos hbig]⟩
  · obtain ⟨last, l, h, n, t, e1, S, hn, ht⟩ := drawPut_f hw
    have e2 := iPut_f last l S.fit h n t (by omega) (by omega)
    have e3 := sPut_f last l S.fit h n t (by omega) (by omega)
    have hR := put_len (last := last) S h n t
    have e4 := whCat_f (putR last l h n t).1 (putR last l h n t).2.1 hR
    have e5 := sCatOk last l S.fit
    have bad := wh_code (putR last l h n t).1 (putR last l h n t).2.1 hR h n (putR last l h n t).2.2 last l
    have : Ends (fun k => laws_FnCatHouse.f k l0) true := by
      unfold laws_FnCatHouse.f
      refine Ends.neg hbig (Ends.bind e1 (Ends.bind e2 (Ends.bind e3 (Ends.pos rfl (Ends.bind e4 (Ends.pos rfl (Ends.bind e5 ?_)))))))
      cases hc : catB last l with
      | false => exact Ends.neg (by simp) bad
      | true =>
        refine Ends.pos rfl ?_
        by_cases h0 : h < 0
        · exact Ends.pos h0 bad
        · refine Ends.neg h0 ?_
          by_cases h1 : h > 1
          · simp only [decide_eq_true h1]
            exact bad
          · simp only [decide_eq_false h1]
            exact house_law (catB_q.1 hc) h n t hn (by omega) (by omega) _
    exact this.get
end Go.Proofs.Ytoohbmoljdfbjaa.P
