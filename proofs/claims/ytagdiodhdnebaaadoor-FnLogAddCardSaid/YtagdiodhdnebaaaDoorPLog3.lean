/- Plain law of the log, third part: places of a byte, numbers, one record, all records. -/
import Derived.Test.YtagdiodhdnebaaaDoorPLog2
set_option linter.unusedVariables false
set_option linter.unusedSimpArgs false
namespace Go.Proofs.YtagdiodhdnebaaaDoor.P
open Go.RowKit Go.Proofs.YtagdiodhdnebaaaDoorW.PrintWords Go.Proofs.YtagdiodhdnebaaaDoorW.PrintMore
theorem in_f (a b c : Int) : spec_l1In.f a b c = some (decide (b ≤ a ∧ a ≤ c)) := by
  unfold spec_l1In.f
  split
  · rename_i h; simp [show b ≤ a from h]
  · rename_i h; simp [show ¬ b ≤ a from h]
theorem within_f (a b c : Int) : impl_within.f a b c = some (decide (b ≤ a ∧ a ≤ c)) := by
  unfold impl_within.f
  split
  · rename_i h; simp [show b ≤ a from h]
  · rename_i h; simp [show ¬ b ≤ a from h]
/-! ### the place of a byte -/
theorem first_space : ∀ (l : List UInt8), (32 : UInt8) ∉ l ∨ ∃ p q, l = p ++ 32 :: q ∧ (32 : UInt8) ∉ p
  | [] => .inl (by simp)
  | b :: l => by
    by_cases hb : b = 32
    · exact .inr ⟨[], l, by simp [hb], by simp⟩
    · rcases first_space l with h | ⟨p, q, rfl, h⟩
      · exact .inl (by simp [h, Ne.symm hb])
      · exact .inr ⟨b :: p, q, rfl, by simp [h, Ne.symm hb]⟩
theorem space_unique : ∀ (p a q b : List UInt8), p ++ 32 :: q = a ++ 32 :: b → (32 : UInt8) ∉ p → (32 : UInt8) ∉ a → p = a ∧ q = b
  | [], [], q, b, h, _, _ => by simpa using h
  | [], x :: a, q, b, h, _, ha => by
    simp only [List.nil_append, List.cons_append, List.cons.injEq] at h
    exact absurd h.1 (by simp at ha; exact ha.1)
  | x :: p, [], q, b, h, hp, _ => by
    simp only [List.nil_append, List.cons_append, List.cons.injEq] at h
    exact absurd h.1.symm (by simp at hp; exact hp.1)
  | x :: p, y :: a, q, b, h, hp, ha => by
    simp only [List.cons_append, List.cons.injEq] at h
    obtain ⟨h1, h2⟩ := space_unique p a q b h.2 (by simp at hp; exact hp.2) (by simp at ha; exact ha.2)
    exact ⟨by rw [h.1, h1], h2⟩
theorem find_some (L : List UInt8) (hL : L.length < 4611686018427387904) : ∀ (p q : List UInt8) (at_ : Nat), L.drop at_ = p ++ 32 :: q → (32 : UInt8) ∉ p → Ends (fun k => spec_l7Find.l0 k (B L) 32 (at_ : Int)) ((at_ + p.length : Nat) : Int)
  | [], q, at_, h, hp => by
    have hlt : at_ < L.length := Nat.lt_of_not_le fun hc => by rw [List.drop_eq_nil_of_le hc] at h; simp at h
    have hb : L.getD at_ 0 = 32 := by
      have : (L.drop at_)[0]? = some 32 := by rw [h]; rfl
      rw [List.getElem?_drop] at this
      rw [List.getD_eq_getElem?_getD, show at_ = at_ + 0 from rfl, this]; rfl
    refine Ends.succ ?_ (fun k => spec_l7Find.l0.eq_2 _ _ _ k)
    refine Ends.pos (by rw [B_size]; omega) (Ends.pos (by omega) (Ends.pos ?_ (Ends.pure fun k => by simp)))
    rw [B_bt, Int.toNat_natCast, hb]
    rfl
  | b :: p, q, at_, h, hp => by
    have hlt : at_ < L.length := Nat.lt_of_not_le fun hc => by rw [List.drop_eq_nil_of_le hc] at h; simp at h
    have hb : L.getD at_ 0 = b := by
      have : (L.drop at_)[0]? = some b := by rw [h]; rfl
      rw [List.getElem?_drop] at this
      rw [List.getD_eq_getElem?_getD, show at_ = at_ + 0 from rfl, this]; rfl
    have hd : L.drop (at_ + 1) = p ++ 32 :: q := by rw [← List.drop_drop, h]; rfl
    have hne : b ≠ 32 := fun e => hp (by simp [e])
    refine Ends.succ ?_ (fun k => spec_l7Find.l0.eq_2 _ _ _ k)
    refine Ends.pos (by rw [B_size]; omega) (Ends.pos (by omega) (Ends.neg ?_ ?_))
    · rw [B_bt, Int.toNat_natCast, hb]
      intro e
      exact hne (UInt8.toNat_inj.1 (by have : b.toNat = 32 := by omega
                                       rw [this]; rfl))
    · rw [w64 (by omega) (by omega), show (at_ : Int) + 1 = ((at_ + 1 : Nat) : Int) by omega]
      have := find_some L hL p q (at_ + 1) hd (fun h => hp (by simp [h]))
      rwa [show at_ + (b :: p).length = at_ + 1 + p.length by simp; omega]
theorem find_none (L : List UInt8) (hL : L.length < 4611686018427387904) : ∀ (d at_ : Nat), at_ + d = L.length → (32 : UInt8) ∉ L.drop at_ → Ends (fun k => spec_l7Find.l0 k (B L) 32 (at_ : Int)) (-1)
  | 0, at_, h, hn => by
    refine Ends.succ ?_ (fun k => spec_l7Find.l0.eq_2 _ _ _ k)
    exact Ends.neg (by rw [B_size]; omega) (Ends.pure fun k => rfl)
  | d + 1, at_, h, hn => by
    have hlt : at_ < L.length := by omega
    have e : L.drop at_ = L[at_] :: L.drop (at_ + 1) := List.drop_eq_getElem_cons hlt
    rw [e] at hn
    refine Ends.succ ?_ (fun k => spec_l7Find.l0.eq_2 _ _ _ k)
    refine Ends.pos (by rw [B_size]; omega) (Ends.pos (by omega) (Ends.neg ?_ ?_))
    · rw [B_bt, Int.toNat_natCast]
      intro e2
      refine hn ?_
      have : (L.getD at_ 0).toNat = 32 := by omega
      have : L[at_] = 32 := by
        rw [List.getD_eq_getElem?_getD, List.getElem?_eq_getElem hlt] at this
        exact UInt8.toNat_inj.1 (by simpa using this)
      simp [this]
    · rw [w64 (by omega) (by omega), show (at_ : Int) + 1 = ((at_ + 1 : Nat) : Int) by omega]
      exact find_none L hL d (at_ + 1) (by omega) (fun h => hn (List.mem_cons_of_mem _ h))
/-! ### numbers -/
theorem num_loop (t : List UInt8) (ht : t.length ≤ 6) : ∀ (d i acc : Nat), i + d = t.length → acc < 10 ^ i →
    ((∀ b ∈ t.drop i, 48 ≤ b.toNat ∧ b.toNat ≤ 57) → Ends (fun k => spec_l5Num.l0 k (B t) (acc : Int) (i : Int)) ((numOf acc (t.drop i) : Nat) : Int)) ∧
    (∃ v : Int, Ends (fun k => spec_l5Num.l0 k (B t) (acc : Int) (i : Int)) v ∧ -1 ≤ v ∧ v < 1000000)
  | 0, i, acc, h, ha => by
    have hp : 10 ^ i ≤ 10 ^ 6 := Nat.pow_le_pow_right (by decide) (by omega)
    have h1 : Ends (fun k => spec_l5Num.l0 k (B t) (acc : Int) (i : Int)) (acc : Int) := by
      refine Ends.succ ?_ (fun k => spec_l5Num.l0.eq_2 _ _ _ k)
      exact Ends.neg (by rw [B_size]; omega) (Ends.pure fun k => rfl)
    refine ⟨fun _ => ?_, (acc : Int), h1, by omega, by omega⟩
    rw [List.drop_eq_nil_of_le (by omega)]
    exact h1
  | d + 1, i, acc, h, ha => by
    have hp : 10 ^ (i + 1) ≤ 10 ^ 6 := Nat.pow_le_pow_right (by decide) (by omega)
    have hp2 : 10 ^ (i + 1) = 10 ^ i * 10 := Nat.pow_succ 10 i
    have hlt : i < t.length := by omega
    have e : t.drop i = t[i] :: t.drop (i + 1) := List.drop_eq_getElem_cons hlt
    have hb : bt (B t) (i : Int) = ((t[i]).toNat : Int) := by rw [B_bt, Int.toNat_natCast]; simp [hlt]
    by_cases hd : 48 ≤ (t[i]).toNat ∧ (t[i]).toNat ≤ 57
    · have hacc : acc * 10 + ((t[i]).toNat - 48) < 10 ^ (i + 1) := by omega
      have ih := num_loop t ht d (i + 1) (acc * 10 + ((t[i]).toNat - 48)) (by omega) hacc
      have step : ∀ v, Ends (fun k => spec_l5Num.l0 k (B t) ((acc * 10 + ((t[i]).toNat - 48) : Nat) : Int) ((i + 1 : Nat) : Int)) v → Ends (fun k => spec_l5Num.l0 k (B t) (acc : Int) (i : Int)) v := by
        intro v hv
        refine Ends.succ ?_ (fun k => spec_l5Num.l0.eq_2 _ _ _ k)
        refine Ends.pos (by rw [B_size]; omega) (Ends.pos (by omega) (Ends.neg (by rw [hb]; omega) ?_))
        have hg : decide (bt (B t) (i : Int) > 57) = false := by rw [hb]; simp; omega
        rw [hg]
        refine Ends.succ ?_ (fun k => spec_l5Num.j2.eq_2 _ _ _ _ k)
        refine Ends.neg (by decide) (Ends.pos (by omega) (Ends.pos (by rw [B_size]; omega) ?_))
        rw [hb, w64 (x := (acc : Int) * 10) (by omega) (by omega), w64 (x := (i : Int) + 1) (by omega) (by omega), w64 (by omega) (by omega)]
        have e1 : (acc : Int) * 10 + (((t[i]).toNat : Int) - 48) % 256 = ((acc * 10 + ((t[i]).toNat - 48) : Nat) : Int) := by omega
        rw [e1]
        exact hv
      refine ⟨fun hall => ?_, ?_⟩
      · have := step _ (ih.1 fun b hb => hall b (by rw [e]; exact List.mem_cons_of_mem _ hb))
        rw [e]
        exact this
      · obtain ⟨v, h1, h2⟩ := ih.2
        exact ⟨v, step v h1, h2⟩
    · refine ⟨fun hall => absurd (hall t[i] (by rw [e]; exact List.mem_cons_self)) hd, -1, ?_, by omega, by omega⟩
      refine Ends.succ ?_ (fun k => spec_l5Num.l0.eq_2 _ _ _ k)
      refine Ends.pos (by rw [B_size]; omega) (Ends.pos (by omega) ?_)
      have hj : Ends (fun k => spec_l5Num.j2 k (B t) (acc : Int) (i : Int) true) (-1) := by
        refine Ends.succ ?_ (fun k => spec_l5Num.j2.eq_2 _ _ _ _ k)
        exact Ends.pos rfl (Ends.pure fun k => rfl)
      by_cases h48 : (t[i]).toNat < 48
      · exact Ends.pos (by rw [hb]; omega) hj
      · refine Ends.neg (by rw [hb]; omega) ?_
        have hg : decide (bt (B t) (i : Int) > 57) = true := by rw [hb]; simp; omega
        rw [hg]
        exact hj
theorem num_j0 (t : List UInt8) : Ends (fun k => spec_l5Num.j0 k (B t) true) (-1) := by
  refine Ends.succ ?_ (fun k => spec_l5Num.j0.eq_2 _ _ k)
  exact Ends.pos rfl (Ends.pure fun k => rfl)
theorem num_j0f (t : List UInt8) {v : Int} (h : Ends (fun k => spec_l5Num.l0 k (B t) 0 0) v) : Ends (fun k => spec_l5Num.j0 k (B t) false) v := by
  refine Ends.succ ?_ (fun k => spec_l5Num.j0.eq_2 _ _ k)
  exact Ends.neg (by decide) h
theorem num_total (t : List UInt8) : ∃ v : Int, Ends (fun k => spec_l5Num.f k (B t)) v ∧ -1 ≤ v ∧ v < 1000000 := by
  by_cases hl : 1 ≤ t.length ∧ t.length ≤ 6
  · obtain ⟨v, h1, h2⟩ := (num_loop t hl.2 t.length 0 0 (by omega) (by decide)).2
    have hin : spec_l1In.f ((B t).size : Int) 1 6 = some true := by rw [in_f, B_size]; simp; omega
    have fin : ∀ b : Bool, ∃ v : Int, Ends (fun k => spec_l5Num.j0 k (B t) b) v ∧ -1 ≤ v ∧ v < 1000000 := fun b => by
      cases b
      · exact ⟨v, num_j0f t h1, h2⟩
      · exact ⟨-1, num_j0 t, by omega, by omega⟩
    unfold spec_l5Num.f
    simp only [hin, Option.bind_some, if_true]
    by_cases h3 : ((B t).size : Int) > 1
    · obtain ⟨v, h4, h5⟩ := fin ((bt (B t) 0) == 48)
      exact ⟨v, Ends.pos h3 (Ends.pos (by omega) h4), h5⟩
    · obtain ⟨v, h4, h5⟩ := fin false
      exact ⟨v, Ends.neg h3 h4, h5⟩
  · have hin : spec_l1In.f ((B t).size : Int) 1 6 = some false := by rw [in_f, B_size]; simp; omega
    refine ⟨-1, ?_, by omega, by omega⟩
    unfold spec_l5Num.f
    simp only [hin, Option.bind_some, Bool.false_eq_true, if_false]
    exact num_j0 t
theorem num_dec (n : Nat) (hn : n < 1000000) : Ends (fun k => spec_l5Num.f k (B (dec n))) (n : Int) := by
  have hl := dec_len n 5 (by omega)
  have hp := dec_pos n
  have h1 := (num_loop (dec n) hl (dec n).length 0 0 (by omega) (by decide)).1 (by simpa using dec_digits n)
  rw [List.drop_zero, numOf_dec] at h1
  have hin : spec_l1In.f ((B (dec n)).size : Int) 1 6 = some true := by rw [in_f, B_size]; simp; omega
  unfold spec_l5Num.f
  simp only [hin, Option.bind_some, if_true]
  by_cases h3 : ((B (dec n)).size : Int) > 1
  · refine Ends.pos h3 (Ends.pos (by omega) ?_)
    have hg : (bt (B (dec n)) 0 == 48) = false := by
      rw [B_bt]
      have hn10 : ¬ n < 10 := fun h => by rw [dec_lt h, B_size] at h3; simp at h3
      have hh := dec_head (n := n) (by omega)
      cases hq : dec n with
      | nil => rw [hq] at hp; simp at hp
      | cons b l =>
        rw [hq] at hh
        have := hh b rfl
        simp
        omega
    rw [hg]
    exact num_j0f _ h1
  · exact Ends.neg h3 (num_j0f _ h1)
theorem Ends.uniq {α : Type} {g : Nat → Option α} {a b : α} (h1 : Ends g a) (h2 : Ends g b) : a = b := by
  obtain ⟨K1, h1⟩ := h1
  obtain ⟨K2, h2⟩ := h2
  have := (h1 (max K1 K2) (by omega)).symm.trans (h2 (max K1 K2) (by omega))
  exact Option.some.inj this
end Go.Proofs.YtagdiodhdnebaaaDoor.P
