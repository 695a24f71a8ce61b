/- Plain law of the catalogue, first part: what a catalogue that is ok is; both programs' tests come to it. -/
import Derived.Test.YtoohbmoljdfbjaaPCat0
set_option linter.unusedVariables false
set_option linter.unusedSimpArgs false
namespace Go.Proofs.Ytoohbmoljdfbjaa.P
open Go.RowKit Go.Proofs.YtoohbmoljdfbjaaW.PrintWords Go.Proofs.YtoohbmoljdfbjaaW.PrintMore
/-! ### small ones -/
theorem in_f (a b c : Int) : spec_l1In.f a b c = some (decide (b ≤ a ∧ a ≤ c)) := by
  unfold spec_l1In.f
  split
  · rename_i h; simp [show b ≤ a from h]
  · rename_i h; simp [show ¬ b ≤ a from h]
theorem within_f (a b c : Int) : impl_within.f a b c = some (decide (b ≤ a ∧ a ≤ c)) := by
  unfold impl_within.f
  split
  · rename_i h; simp [show b ≤ a from h]
  · rename_i h; simp [show ¬ b ≤ a from h]
/-! ### names -/
def nameP (s : ByteArray) : Prop := (∀ i : Nat, i < s.size → 97 ≤ bt s i ∧ bt s i ≤ 122) ∧ 1 ≤ s.size ∧ s.size ≤ 6
theorem sName_loop (s : ByteArray) (hs : s.size < 1000000000) : ∀ (d i : Nat), i + d = s.size → (∀ j : Nat, j < i → 97 ≤ bt s j ∧ bt s j ≤ 122) → ∃ b, Ends (fun k => spec_NameOk.l0 k s (i : Int)) b ∧ (b = true ↔ nameP s)
  | 0, i, h, hj => by
    refine ⟨decide ((1 : Int) ≤ (s.size : Int) ∧ (s.size : Int) ≤ 6), Ends.succ ?_ (fun k => spec_NameOk.l0.eq_2 _ _ k), ?_⟩
    · refine Ends.neg (by omega) (Ends.pure fun k => ?_)
      rw [in_f]
      rfl
    · rw [decide_eq_true_iff]
      constructor
      · rintro ⟨h1, h2⟩
        exact ⟨fun j hj' => hj j (by omega), by omega, by omega⟩
      · rintro ⟨_, h1, h2⟩
        exact ⟨by omega, by omega⟩
  | d + 1, i, h, hj => by
    by_cases h1 : bt s (i : Int) < 97
    · refine ⟨false, Ends.succ ?_ (fun k => spec_NameOk.l0.eq_2 _ _ k), ?_⟩
      · refine Ends.pos (by omega) (Ends.pos (by omega) (Ends.pos h1 (Ends.succ ?_ (fun k => spec_NameOk.j1.eq_2 _ _ _ k))))
        exact Ends.pos rfl (Ends.pure fun k => rfl)
      · simp only [Bool.false_eq_true, false_iff]
        rintro ⟨h2, _⟩
        have := h2 i (by omega)
        omega
    · by_cases h2 : bt s (i : Int) > 122
      · refine ⟨false, Ends.succ ?_ (fun k => spec_NameOk.l0.eq_2 _ _ k), ?_⟩
        · refine Ends.pos (by omega) (Ends.pos (by omega) (Ends.neg h1 (Ends.succ ?_ (fun k => spec_NameOk.j1.eq_2 _ _ _ k))))
          exact Ends.pos (decide_eq_true h2) (Ends.pure fun k => rfl)
        · simp only [Bool.false_eq_true, false_iff]
          rintro ⟨h3, _⟩
          have := h3 i (by omega)
          omega
      · obtain ⟨b, hb, hi⟩ := sName_loop s hs d (i + 1) (by omega) (fun j hj' => by
          by_cases e : j = i
          · subst e; omega
          · exact hj j (by omega))
        refine ⟨b, Ends.succ ?_ (fun k => spec_NameOk.l0.eq_2 _ _ k), hi⟩
        refine Ends.pos (by omega) (Ends.pos (by omega) (Ends.neg h1 (Ends.succ ?_ (fun k => spec_NameOk.j1.eq_2 _ _ _ k))))
        refine Ends.neg (by simpa using h2) ?_
        rw [w64 (by omega) (by omega), show (i : Int) + 1 = ((i + 1 : Nat) : Int) by omega]
        exact hb
theorem iName_loop (s : ByteArray) (hs : s.size < 1000000000) : ∀ (d i : Nat), i + d = s.size → (∀ j : Nat, j < i → 97 ≤ bt s j ∧ bt s j ≤ 122) → ∃ b, Ends (fun k => impl_NameOk.l0 k s (s.size : Int) (i : Int)) b ∧ (b = true ↔ nameP s)
  | 0, i, h, hj => by
    refine ⟨decide ((1 : Int) ≤ (s.size : Int) ∧ (s.size : Int) ≤ 6), Ends.succ ?_ (fun k => impl_NameOk.l0.eq_2 _ _ _ k), ?_⟩
    · refine Ends.neg (by omega) (Ends.pure fun k => ?_)
      rw [within_f]
      rfl
    · rw [decide_eq_true_iff]
      constructor
      · rintro ⟨h1, h2⟩
        exact ⟨fun j hj' => hj j (by omega), by omega, by omega⟩
      · rintro ⟨_, h1, h2⟩
        exact ⟨by omega, by omega⟩
  | d + 1, i, h, hj => by
    by_cases h1 : bt s (i : Int) < 97
    · refine ⟨false, Ends.succ ?_ (fun k => impl_NameOk.l0.eq_2 _ _ _ k), ?_⟩
      · refine Ends.pos (by omega) (Ends.pos (by omega) (Ends.pos (by omega) (Ends.pos h1 (Ends.succ ?_ (fun k => impl_NameOk.j1.eq_2 _ _ _ _ k)))))
        exact Ends.pos rfl (Ends.pure fun k => rfl)
      · simp only [Bool.false_eq_true, false_iff]
        rintro ⟨h2, _⟩
        have := h2 i (by omega)
        omega
    · by_cases h2 : bt s (i : Int) > 122
      · refine ⟨false, Ends.succ ?_ (fun k => impl_NameOk.l0.eq_2 _ _ _ k), ?_⟩
        · refine Ends.pos (by omega) (Ends.pos (by omega) (Ends.pos (by omega) (Ends.neg h1 (Ends.succ ?_ (fun k => impl_NameOk.j1.eq_2 _ _ _ _ k)))))
          exact Ends.pos (decide_eq_true h2) (Ends.pure fun k => rfl)
        · simp only [Bool.false_eq_true, false_iff]
          rintro ⟨h3, _⟩
          have := h3 i (by omega)
          omega
      · obtain ⟨b, hb, hi⟩ := iName_loop s hs d (i + 1) (by omega) (fun j hj' => by
          by_cases e : j = i
          · subst e; omega
          · exact hj j (by omega))
        refine ⟨b, Ends.succ ?_ (fun k => impl_NameOk.l0.eq_2 _ _ _ k), hi⟩
        refine Ends.pos (by omega) (Ends.pos (by omega) (Ends.pos (by omega) (Ends.neg h1 (Ends.succ ?_ (fun k => impl_NameOk.j1.eq_2 _ _ _ _ k)))))
        refine Ends.neg (by simpa using h2) ?_
        rw [w64 (by omega) (by omega), show (i : Int) + 1 = ((i + 1 : Nat) : Int) by omega]
        exact hb
/-! ### a thing that is ok -/
def thingP (h : Int) (n t : ByteArray) : Prop := (0 ≤ h ∧ h ≤ 1) ∧ nameP n ∧ 1 ≤ t.size ∧ t.size ≤ 300
theorem sOk_f (h : Int) (n : ByteArray) (e : Int) (t : ByteArray) (hn : n.size < 1000000000) : ∃ b, Ends (fun k => spec_l9Ok.f k h n e t) b ∧ (b = true ↔ thingP h n t) := by
  unfold spec_l9Ok.f
  simp only [in_f, Option.bind_some]
  have j0 : ∀ b, Ends (fun k => spec_l9Ok.j0 k b) b := fun b => Ends.succ (Ends.pure fun k => rfl) (fun k => spec_l9Ok.j0.eq_2 _ k)
  by_cases h1 : 0 ≤ h ∧ h ≤ 1
  · obtain ⟨b, hb, hi⟩ := sName_loop n hn n.size 0 (by omega) (fun j hj => by omega)
    cases b with
    | false => exact ⟨false, Ends.pos (by simpa using h1) (Ends.bind (f := fun k t213 => if t213 = true then spec_l9Ok.j0 k (decide ((1 : Int) ≤ (t.size : Int) ∧ (t.size : Int) ≤ 300)) else spec_l9Ok.j0 k false) hb (Ends.neg (by simp) (j0 false))), ⟨fun q => (by cases q), fun q => absurd (hi.2 q.2.1) (by simp)⟩⟩
    | true =>
      refine ⟨_, Ends.pos (by simpa using h1) (Ends.bind (f := fun k t213 => if t213 = true then spec_l9Ok.j0 k (decide ((1 : Int) ≤ (t.size : Int) ∧ (t.size : Int) ≤ 300)) else spec_l9Ok.j0 k false) hb (Ends.pos rfl (j0 _))), ?_⟩
      rw [decide_eq_true_iff]
      exact ⟨fun q => ⟨h1, hi.1 rfl, by omega, by omega⟩, fun q => ⟨by have := q.2.2.1; omega, by have := q.2.2.2; omega⟩⟩
  · exact ⟨false, Ends.neg (by simpa using h1) (j0 false), ⟨fun q => (by cases q), fun q => absurd q.1 h1⟩⟩
theorem iOk_f (h : Int) (n t : ByteArray) (hn : n.size < 1000000000) : ∃ b, Ends (fun k => impl_publishable.f k h n t) b ∧ (b = true ↔ thingP h n t) := by
  unfold impl_publishable.f impl_house.f
  simp only [within_f, Option.bind_some]
  have j0 : ∀ b, Ends (fun k => impl_publishable.j0 k b) b := fun b => Ends.succ (Ends.pure fun k => rfl) (fun k => impl_publishable.j0.eq_2 _ k)
  by_cases h1 : 0 ≤ h ∧ h ≤ 1
  · obtain ⟨b, hb, hi⟩ := iName_loop n hn n.size 0 (by omega) (fun j hj => by omega)
    cases b with
    | false => exact ⟨false, Ends.pos (by simpa using h1) (Ends.bind (f := fun k t213 => if t213 = true then impl_publishable.j0 k (decide ((1 : Int) ≤ (t.size : Int) ∧ (t.size : Int) ≤ 300)) else impl_publishable.j0 k false) hb (Ends.neg (by simp) (j0 false))), ⟨fun q => (by cases q), fun q => absurd (hi.2 q.2.1) (by simp)⟩⟩
    | true =>
      refine ⟨_, Ends.pos (by simpa using h1) (Ends.bind (f := fun k t213 => if t213 = true then impl_publishable.j0 k (decide ((1 : Int) ≤ (t.size : Int) ∧ (t.size : Int) ≤ 300)) else impl_publishable.j0 k false) hb (Ends.pos rfl (j0 _))), ?_⟩
      rw [decide_eq_true_iff]
      exact ⟨fun q => ⟨h1, hi.1 rfl, by omega, by omega⟩, fun q => ⟨by have := q.2.2.1; omega, by have := q.2.2.2; omega⟩⟩
  · exact ⟨false, Ends.neg (by simpa using h1) (j0 false), ⟨fun q => (by cases q), fun q => absurd q.1 h1⟩⟩
/-! ### bytes of a house -/
def wt (h : Int) (x : S38) : Nat := if x.f0 = h then x.f3.size else 0
def bytesN (h : Int) (l : List S38) : Nat := (l.map (wt h)).sum
theorem bytesN_take (h : Int) (l : List S38) (i : Nat) (hi : i < l.length) : bytesN h (l.take (i + 1)) = bytesN h (l.take i) + wt h (l.getD i z38) := by
  unfold bytesN
  rw [List.take_succ_eq_append_getElem hi, List.map_append, List.sum_append]
  simp [hi]
theorem bytesN_le (h : Int) (l : List S38) (i : Nat) : bytesN h (l.take i) ≤ bytesN h l := by
  conv => rhs; rw [← List.take_append_drop i l]
  unfold bytesN
  rw [List.map_append, List.sum_append]
  omega
theorem sBytes_loop (h : Int) (l : List S38) (hl : l.length < 1000000000) (hb : bytesN h l < 1000000000000) : ∀ (d i : Nat), i + d = l.length → Ends (fun k => spec_l9Bytes.l0 k l h ((bytesN h (l.take i) : Nat) : Int) (i : Int)) ((bytesN h l : Nat) : Int)
  | 0, i, hi => by
    rw [List.take_of_length_le (by omega)]
    refine Ends.succ ?_ (fun k => spec_l9Bytes.l0.eq_2 _ _ _ _ k)
    exact Ends.neg (by omega) (Ends.pure fun k => rfl)
  | d + 1, i, hi => by
    have ih := sBytes_loop h l hl hb d (i + 1) (by omega)
    have e := bytesN_take h l i (by omega)
    have hle := bytesN_le h l (i + 1)
    rw [e] at ih
    have w1 : wrap64 ((i : Int) + 1) = ((i + 1 : Nat) : Int) := by rw [w64 (by omega) (by omega)]; omega
    refine Ends.succ ?_ (fun k => spec_l9Bytes.l0.eq_2 _ _ _ _ k)
    refine Ends.pos (by omega) (Ends.pos (by omega) ?_)
    have hrd : rd_T38 l (i : Int) = l.getD i z38 := by unfold rd_T38; rw [Int.toNat_natCast]
    rw [hrd, w1]
    unfold wt at ih e
    by_cases hx : (l.getD i z38).f0 = h
    · rw [if_pos hx] at ih e
      refine Ends.pos hx ?_
      rw [w64 (by omega) (by omega), show ((bytesN h (l.take i) : Nat) : Int) + ((l.getD i z38).f3.size : Int) = ((bytesN h (l.take i) + (l.getD i z38).f3.size : Nat) : Int) by omega]
      exact ih
    · rw [if_neg hx] at ih
      exact Ends.neg hx ih
theorem sBytes_f (h : Int) (l : List S38) (hl : l.length < 1000000000) (hb : bytesN h l < 1000000000000) : Ends (fun k => spec_l9Bytes.f k l h) ((bytesN h l : Nat) : Int) := sBytes_loop h l hl hb l.length 0 (by omega)
theorem iBytes_loop (h : Int) (l : List S38) (hl : l.length < 1000000000) (hb : bytesN h l < 1000000000000) : ∀ (d i : Nat), i + d = l.length → Ends (fun k => impl_Cat_bytes.l0 k h ((bytesN h (l.take i) : Nat) : Int) l (l.length : Int) (i : Int)) ((bytesN h l : Nat) : Int)
  | 0, i, hi => by
    rw [List.take_of_length_le (by omega)]
    refine Ends.succ ?_ (fun k => impl_Cat_bytes.l0.eq_2 _ _ _ _ _ k)
    exact Ends.neg (by omega) (Ends.pure fun k => rfl)
  | d + 1, i, hi => by
    have ih := iBytes_loop h l hl hb d (i + 1) (by omega)
    have e := bytesN_take h l i (by omega)
    have hle := bytesN_le h l (i + 1)
    rw [e] at ih
    have w1 : wrap64 ((i : Int) + 1) = ((i + 1 : Nat) : Int) := by rw [w64 (by omega) (by omega)]; omega
    refine Ends.succ ?_ (fun k => impl_Cat_bytes.l0.eq_2 _ _ _ _ _ k)
    refine Ends.pos (by omega) (Ends.pos (by omega) (Ends.pos (by omega) ?_))
    have hrd : rd_T38 l (i : Int) = l.getD i z38 := by unfold rd_T38; rw [Int.toNat_natCast]
    rw [hrd, w1]
    unfold wt at ih e
    by_cases hx : (l.getD i z38).f0 = h
    · rw [if_pos hx] at ih e
      refine Ends.pos hx ?_
      rw [w64 (by omega) (by omega), show ((bytesN h (l.take i) : Nat) : Int) + ((l.getD i z38).f3.size : Int) = ((bytesN h (l.take i) + (l.getD i z38).f3.size : Nat) : Int) by omega]
      exact ih
    · rw [if_neg hx] at ih
      exact Ends.neg hx ih
theorem iBytes_f (h : Int) (a : Int) (l : List S38) (hl : l.length < 1000000000) (hb : bytesN h l < 1000000000000) : Ends (fun k => impl_Cat_bytes.f k a l h) ((bytesN h l : Nat) : Int) := iBytes_loop h l hl hb l.length 0 (by omega)
end Go.Proofs.Ytoohbmoljdfbjaa.P
