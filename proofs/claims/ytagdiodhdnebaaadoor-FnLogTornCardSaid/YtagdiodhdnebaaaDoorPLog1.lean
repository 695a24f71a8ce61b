/- Plain law of the log, first part: functions that come to an end, bytes, decimals, hexadecimals, a record's line. -/
import Derived.Test.YtagdiodhdnebaaaDoorPSum
import Derived.Test.YtagdiodhdnebaaaDoorPx
import Derived.Laws.Concat
set_option linter.unusedVariables false
set_option linter.unusedSimpArgs false
namespace Go.Proofs.YtagdiodhdnebaaaDoor.P
open Go.RowKit Go.Proofs.YtagdiodhdnebaaaDoorW.PrintWords Go.Proofs.YtagdiodhdnebaaaDoorW.PrintMore
/-! ### functions that come to an end -/
def Ends {α : Type} (g : Nat → Option α) (r : α) : Prop := ∃ K, ∀ k, K ≤ k → g k = some r
theorem Ends.of {α : Type} {g : Nat → Option α} (hm : ∀ k, LeO (g k) (g (k + 1))) {k : Nat} {r : α} (h : g k = some r) : Ends g r := ⟨k, fun k' hk => at_rounds hm hk h⟩
theorem Ends.pure {α : Type} {g : Nat → Option α} {r : α} (h : ∀ k, g k = some r) : Ends g r := ⟨0, fun k _ => h k⟩
theorem Ends.bind {α β : Type} {g : Nat → Option α} {f : Nat → α → Option β} {a : α} {r : β} (h1 : Ends g a) (h2 : Ends (fun k => f k a) r) : Ends (fun k => (g k).bind fun x => f k x) r := by
  obtain ⟨K1, h1⟩ := h1
  obtain ⟨K2, h2⟩ := h2
  exact ⟨max K1 K2, fun k hk => by
    show (g k).bind _ = _
    rw [h1 k (by omega)]
    exact h2 k (by omega)⟩
theorem Ends.succ {α : Type} {g f : Nat → Option α} {r : α} (h : Ends f r) (he : ∀ k, g (k + 1) = f k) : Ends g r := by
  obtain ⟨K, h⟩ := h
  refine ⟨K + 1, fun k hk => ?_⟩
  obtain ⟨j, rfl⟩ : ∃ j, k = j + 1 := ⟨k - 1, by omega⟩
  rw [he]
  exact h j (by omega)
theorem Ends.congr {α : Type} {g f : Nat → Option α} {r : α} (h : Ends f r) (he : ∀ k, g k = f k) : Ends g r := by
  obtain ⟨K, h⟩ := h
  exact ⟨K, fun k hk => (he k).trans (h k hk)⟩
theorem Ends.get {α : Type} {g : Nat → Option α} {r : α} (h : Ends g r) : ∃ k, g k = some r := by
  obtain ⟨K, h⟩ := h
  exact ⟨K, h K (Nat.le_refl _)⟩
theorem Ends.pos {α : Type} {p : Prop} [Decidable p] {g f : Nat → Option α} {r : α} (hp : p) (h : Ends g r) : Ends (fun k => if p then g k else f k) r := h.congr fun k => if_pos hp
theorem Ends.neg {α : Type} {p : Prop} [Decidable p] {g f : Nat → Option α} {r : α} (hp : ¬ p) (h : Ends f r) : Ends (fun k => if p then g k else f k) r := h.congr fun k => if_neg hp
/-! ### bytes -/
abbrev B (l : List UInt8) : ByteArray := ⟨l.toArray⟩
theorem B_of (s : ByteArray) : s = B s.data.toList := by cases s; simp
theorem B_size (l : List UInt8) : (B l).size = l.length := by simp [ByteArray.size]
theorem B_app (a b : List UInt8) : B a ++ B b = B (a ++ b) := ByteArray.mk_append_mk a b
theorem B_ext (l : List UInt8) (i j : Nat) : (B l).extract i j = B ((l.take j).drop i) := by
  apply ByteArray.ext
  rw [ByteArray.data_extract]
  apply Array.toList_inj.1
  simp [Array.toList_extract, List.extract_eq_take_drop, List.drop_take]
theorem B_list (l : List UInt8) : (B l).toList = l := by rw [ByteArray.toList_eq]
theorem B_bt (l : List UInt8) (i : Int) : bt (B l) i = ((l.getD i.toNat 0).toNat : Int) := by
  unfold bt
  split
  · rename_i h
    have h' : i.toNat < l.length := by rw [← B_size l]; exact h
    simp [ByteArray.getElem_eq_getElem_data, h']
  · rename_i h
    have h' : ¬ i.toNat < l.length := by rw [← B_size l]; exact h
    simp [h']
/-! ### decimals -/
abbrev dec (n : Nat) : List UInt8 := Lib.decDigits n
theorem dec_lt {n : Nat} (h : n < 10) : dec n = [UInt8.ofNat (48 + n)] := Lib.decDigits_one h
theorem dec_ge {n : Nat} (h : ¬ n < 10) : dec n = dec (n / 10) ++ [UInt8.ofNat (48 + n % 10)] := by
  show Lib.decDigits n = _
  rw [Lib.decDigits, dif_neg h]
theorem dec_len (n : Nat) : ∀ k, n < 10 ^ (k + 1) → (dec n).length ≤ k + 1 := by
  induction n using Nat.strongRecOn with
  | _ n ih =>
    intro k hk
    by_cases h : n < 10
    · rw [dec_lt h]; simp
    · rw [dec_ge h]
      match k with
      | 0 => omega
      | k + 1 =>
        have := ih (n / 10) (by omega) k (by rw [Nat.div_lt_iff_lt_mul (by decide)]; rw [← Nat.pow_succ]; exact hk)
        simp; omega
theorem dec_pos (n : Nat) : 0 < (dec n).length := by
  by_cases h : n < 10
  · rw [dec_lt h]; simp
  · rw [dec_ge h]; simp
theorem digit_nat {d : Nat} (h : d < 10) : (UInt8.ofNat (48 + d)).toNat = 48 + d := by simp [UInt8.toNat_ofNat]; omega
theorem dec_digits (n : Nat) : ∀ b ∈ dec n, 48 ≤ b.toNat ∧ b.toNat ≤ 57 := by
  induction n using Nat.strongRecOn with
  | _ n ih =>
    intro b hb
    by_cases h : n < 10
    · rw [dec_lt h] at hb
      simp only [List.mem_singleton] at hb
      rw [hb, digit_nat h]
      omega
    · rw [dec_ge h] at hb
      rcases List.mem_append.1 hb with hb | hb
      · exact ih _ (by omega) b hb
      · simp only [List.mem_singleton] at hb
        rw [hb, digit_nat (Nat.mod_lt _ (by decide))]
        omega
theorem dec_head {n : Nat} (h : 0 < n) : ∀ b, (dec n).head? = some b → b.toNat ≠ 48 := by
  induction n using Nat.strongRecOn with
  | _ n ih =>
    intro b hb
    by_cases h1 : n < 10
    · rw [dec_lt h1] at hb
      simp only [List.head?_cons, Option.some.injEq] at hb
      rw [← hb, digit_nat h1]
      omega
    · rw [dec_ge h1] at hb
      have hp := dec_pos (n / 10)
      have e : (dec (n / 10) ++ [UInt8.ofNat (48 + n % 10)]).head? = (dec (n / 10)).head? := by
        cases hq : dec (n / 10) with
        | nil => rw [hq] at hp; simp at hp
        | cons a l => rfl
      rw [e] at hb
      exact ih _ (by omega) (by omega) b hb
/-- The number that digits spell. -/
def numOf (acc : Nat) (l : List UInt8) : Nat := l.foldl (fun a b => a * 10 + (b.toNat - 48)) acc
theorem numOf_dec (n : Nat) : numOf 0 (dec n) = n := by
  induction n using Nat.strongRecOn with
  | _ n ih =>
    by_cases h : n < 10
    · rw [dec_lt h]; simp only [numOf, List.foldl_cons, List.foldl_nil, digit_nat h]; omega
    · rw [dec_ge h]
      have := ih (n / 10) (by omega)
      unfold numOf at this ⊢
      rw [List.foldl_append, this]
      simp only [List.foldl_cons, List.foldl_nil, digit_nat (Nat.mod_lt n (show 0 < 10 by decide))]
      omega
theorem str_one {d : Nat} (h : d < 10) : strOfNums [(wrap64 (48 + (d : Int))) % 256] = B [UInt8.ofNat (48 + d)] := by
  have : ((wrap64 (48 + (d : Int))) % 256).toNat = 48 + d := by rw [w64 (by omega) (by omega)]; omega
  simp [strOfNums, this]
theorem l1Dec_ends (n : Nat) : n < 9223372036854775808 → Ends (fun k => spec_l1Dec.f k (n : Int)) (B (dec n)) := by
  induction n using Nat.strongRecOn with
  | _ n ih =>
    intro hn
    refine Ends.succ (f := _) ?_ (fun k => spec_l1Dec.f.eq_2 _ k)
    refine Ends.neg (by omega) (Ends.neg (by omega) ?_)
    by_cases h : n < 10
    · refine Ends.pos (by omega) (Ends.pure fun k => ?_)
      rw [str_one h, dec_lt h]
    · refine Ends.neg (by omega) ?_
      have e1 : wrap64 (Int.tdiv (n : Int) 10) = ((n / 10 : Nat) : Int) := by
        rw [Int.tdiv_eq_ediv_of_nonneg (by omega), w64 (by omega) (by omega)]; omega
      have e2 : Int.tmod (n : Int) 10 = ((n % 10 : Nat) : Int) := by rw [Int.tmod_eq_emod_of_nonneg (by omega)]; omega
      rw [e1, e2]
      refine Ends.bind (ih (n / 10) (by omega) (by omega)) ?_
      simp only [Option.bind_some]
      have hl := dec_len (n / 10) 18 (by omega)
      rw [str_one (Nat.mod_lt n (show 0 < 10 by decide))]
      refine Ends.pos (by rw [B_size, B_size]; simp; omega) (Ends.pure fun k => ?_)
      rw [B_app, ← dec_ge h]
theorem itoa_f (n : Nat) (hn : n < 9223372036854775808) : strconv_Itoa.f (n : Int) = some (B (dec n)) := by
  unfold strconv_Itoa.f
  rw [if_pos ⟨by omega, by omega⟩]
  simp only [Lib.itoa]
  rw [if_neg (by omega), Int.toNat_natCast]
theorem parse_app : ∀ (l : List UInt8) (acc : Nat) (r : List UInt8), (∀ b ∈ l, 48 ≤ b.toNat ∧ b.toNat ≤ 57) → numOf acc l < 1844674407370955162 → Lib.parseUint10 acc (l ++ r) = Lib.parseUint10 (numOf acc l) r
  | [], acc, r, _, _ => rfl
  | c :: l, acc, r, hd, hb => by
    have hc := hd c (by simp)
    have hge : ∀ (l : List UInt8) (a : Nat), a ≤ numOf a l := by
      intro l
      induction l with
      | nil => intro a; exact Nat.le_refl _
      | cons x l ih => intro a; exact Nat.le_trans (by omega) (ih (a * 10 + (x.toNat - 48)))
    have hb' : numOf (acc * 10 + (c.toNat - 48)) l < 1844674407370955162 := hb
    have h1 := hge l (acc * 10 + (c.toNat - 48))
    show Lib.parseUint10 acc (c :: (l ++ r)) = _
    simp only [Lib.parseUint10]
    rw [if_pos hc, if_neg (by omega), if_neg (by omega), parse_app l _ r (fun b hb => hd b (by simp [hb])) hb']
    rfl
theorem atoi_dec (n : Nat) (hn : n < 1000000) : Lib.atoiAll (dec n) = .ok (n : Int) := by
  have hp := dec_pos n
  have hd := dec_digits n
  have hv := numOf_dec n
  generalize hl : dec n = l at hp hd hv
  match l, hp with
  | c :: r, _ =>
    have hc := hd c (by simp)
    have h1 := parse_app (c :: r) 0 [] hd (by rw [hv]; omega)
    rw [List.append_nil, hv] at h1
    have h2 : ¬ (c.toNat = 43 ∨ c.toNat = 45) := by omega
    have h3 : ¬ c.toNat = 45 := by omega
    have h4 : ¬ c.toNat = 43 := by omega
    simp only [Lib.atoiAll, Lib.parseMag, h4, h3, or_false, if_false, h1, Lib.parseUint10, reduceCtorEq, not_false_eq_true, true_and, false_and]
    rw [if_neg (by omega)]
theorem numB_dec (n : Nat) (hn : n < 1000000) : numB (B (dec n)) = ((n : Int), true) := by
  unfold numB
  rw [show (B (dec n)).data.toList = dec n from rfl, atoi_dec n hn]
  have hl := dec_len n 5 (by omega)
  simp only
  have hi : Lib.itoa (n : Int) = dec n := by
    unfold Lib.itoa
    rw [if_neg (by omega), Int.toNat_natCast]
  rw [if_neg (by omega), if_neg (by rw [B_size]; omega), if_pos hi]
theorem numB_true {t : List UInt8} {n : Int} (h : numB (B t) = (n, true)) : ∃ m : Nat, n = m ∧ t = dec m := by
  unfold numB at h
  split at h
  · split at h
    · simp at h
    · split at h
      · simp at h
      · split at h
        · rename_i h1 _ h3
          obtain ⟨rfl, _⟩ := Prod.mk.inj h
          refine ⟨_, (Int.toNat_of_nonneg (by omega)).symm, ?_⟩
          unfold Lib.itoa at h3
          rw [if_neg h1] at h3
          exact h3.symm
        · simp at h
  · simp at h
end Go.Proofs.YtagdiodhdnebaaaDoor.P
