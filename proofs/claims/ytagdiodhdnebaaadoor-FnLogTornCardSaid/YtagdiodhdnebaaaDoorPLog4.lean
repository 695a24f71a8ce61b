/- Plain law of the log, fourth part: one record, all records: the reference and the program read alike. -/
import Derived.Test.YtagdiodhdnebaaaDoorPLog3
set_option linter.unusedVariables false
set_option linter.unusedSimpArgs false
namespace Go.Proofs.YtagdiodhdnebaaaDoor.P
open Go.RowKit Go.Proofs.YtagdiodhdnebaaaDoorW.PrintWords Go.Proofs.YtagdiodhdnebaaaDoorW.PrintMore
theorem dec_nosp (n : Nat) : (32 : UInt8) ∉ dec n := fun h => by
  have := dec_digits n 32 h
  simp at this
theorem dec_inj {a b : Nat} (h : dec a = dec b) : a = b := by rw [← numOf_dec a, h, numOf_dec]
/-- What stands behind a record's length. -/
def tailL (num : Nat) (rec : List UInt8) : List UInt8 := hx (headL num rec.length ++ rec) ++ [32] ++ rec ++ [10]
theorem lineL_parts (num : Nat) (rec : List UInt8) : lineL num rec = dec num ++ 32 :: (dec rec.length ++ 32 :: tailL num rec) := by
  simp [lineL, tailL, headL]
theorem tailL_rec (num : Nat) (rec z : List UInt8) : ((tailL num rec ++ z).take (17 + rec.length)).drop 17 = rec := by
  have e : tailL num rec ++ z = (hx (headL num rec.length ++ rec) ++ [32]) ++ (rec ++ ([10] ++ z)) := by simp [tailL]
  have hl : (hx (headL num rec.length ++ rec) ++ [32]).length = 17 := by rw [List.length_append, hx_len]; rfl
  rw [List.drop_take, e, List.drop_left' hl, show 17 + rec.length - 17 = rec.length by omega]
  exact List.take_left' rfl
/-- A record stands at a place. -/
def IsRec (L : List UInt8) (at_ num : Nat) (rec : List UInt8) : Prop := 1 ≤ rec.length ∧ rec.length ≤ 500 ∧ ∃ z, L.drop at_ = lineL num rec ++ z
theorem B_inj {a b : List UInt8} : (B a).toList = (B b).toList ↔ a = b := by rw [B_list, B_list]
section
variable {L : List UInt8} {at_ num : Nat}
theorem drop_parts {p q : List UInt8} (hat : at_ ≤ L.length) (h : L.drop at_ = p ++ 32 :: q) : L.drop (at_ + p.length + 1) = q ∧ at_ + p.length + 1 + q.length = L.length ∧ (L.take (at_ + p.length)).drop at_ = p := by
  have hl : at_ + (p.length + 1 + q.length) = L.length := by
    have := congrArg List.length h
    simp at this
    omega
  refine ⟨?_, by omega, ?_⟩
  · rw [show at_ + p.length + 1 = at_ + (p.length + 1) by omega, ← List.drop_drop, h]
    have : p ++ 32 :: q = (p ++ [32]) ++ q := by simp
    rw [this]
    exact List.drop_left' (by simp)
  · rw [List.drop_take, h, show at_ + p.length - at_ = p.length by omega]
    exact List.take_left' rfl
/-- Two spaces ahead, a record is told by its place. -/
theorem rec_told {rec : List UInt8} (hat : at_ ≤ L.length) (h : IsRec L at_ num rec) {p q : List UInt8} (hp : L.drop at_ = p ++ 32 :: q) (hn : (32 : UInt8) ∉ p) : p = dec num ∧ ∃ z, q = dec rec.length ++ 32 :: (tailL num rec ++ z) := by
  obtain ⟨_, _, z, hz⟩ := h
  rw [lineL_parts, hp] at hz
  have hz' : p ++ 32 :: q = dec num ++ 32 :: (dec rec.length ++ 32 :: (tailL num rec ++ z)) := by rw [hz]; simp
  obtain ⟨h1, h2⟩ := space_unique p (dec num) q _ hz' hn (dec_nosp num)
  exact ⟨h1, z, h2⟩
/-- where the record itself lies -/
theorem rec_lies {rec p q : List UInt8} {z : List UInt8} (hat : at_ ≤ L.length) (hp : L.drop at_ = p ++ 32 :: q) (h1 : p = dec num) (h2 : q = dec rec.length ++ 32 :: (tailL num rec ++ z)) :
    (L.take (at_ + p.length + 1 + (dec rec.length).length + 18 + rec.length)).drop (at_ + p.length + 1 + (dec rec.length).length + 18) = rec ∧
    (L.take (at_ + p.length + 1 + (dec rec.length).length + 18 + rec.length + 1)).drop at_ = lineL num rec ∧ at_ + p.length + 1 + (dec rec.length).length + 18 + rec.length + 1 ≤ L.length := by
  obtain ⟨e1, e2, _⟩ := drop_parts hat hp
  have hz : L.drop at_ = lineL num rec ++ z := by rw [hp, lineL_parts, h1, h2]; simp
  have hll := lineL_len num rec
  have hlen := congrArg List.length hz
  rw [List.length_drop, List.length_append, hll] at hlen
  rw [← h1] at hlen hll
  have e3 : L.drop (at_ + p.length + 1 + (dec rec.length).length + 1) = tailL num rec ++ z := by
    rw [show at_ + p.length + 1 + (dec rec.length).length + 1 = (at_ + p.length + 1) + ((dec rec.length).length + 1) by omega, ← List.drop_drop, e1, h2]
    have : dec rec.length ++ 32 :: (tailL num rec ++ z) = (dec rec.length ++ [32]) ++ (tailL num rec ++ z) := by simp
    rw [this]
    exact List.drop_left' (by simp)
  refine ⟨?_, ?_, by omega⟩
  · have := tailL_rec num rec z
    rw [← e3, List.drop_take, List.drop_drop] at this
    rw [List.drop_take]
    rw [show at_ + p.length + 1 + (dec rec.length).length + 18 = at_ + p.length + 1 + (dec rec.length).length + 1 + 17 by omega]
    rw [show 17 + rec.length - 17 = rec.length by omega] at this
    rw [show at_ + p.length + 1 + (dec rec.length).length + 1 + 17 + rec.length - (at_ + p.length + 1 + (dec rec.length).length + 1 + 17) = rec.length by omega]
    exact this
  · rw [List.drop_take, hz]
    exact List.take_left' (by rw [hll]; omega)
/-! ### the reference -/
theorem next_stop (hL : L.length ≤ 1048576) {x8 : Int} : Ends (fun k => spec_l8Next.j0 k (B L) (at_ : Int) (num : Int) x8 true) (B [], 0) := by
  refine Ends.succ ?_ (fun k => spec_l8Next.j0.eq_2 _ _ _ _ _ k)
  exact Ends.pos rfl (Ends.pure fun k => rfl)
theorem next_stop1 {x10 x11 : Int} : Ends (fun k => spec_l8Next.j1 k (B L) (at_ : Int) (num : Int) x10 x11 true) (B [], 0) := by
  refine Ends.succ ?_ (fun k => spec_l8Next.j1.eq_2 _ _ _ _ _ _ k)
  exact Ends.pos rfl (Ends.pure fun k => rfl)
theorem next_j1 (hL : L.length ≤ 1048576) (hnum : num < 1000000) (hat : at_ ≤ L.length) (n fr : Nat) (hn : 1 ≤ n) (hfr : fr + n + 1 ≤ L.length) (hle : at_ ≤ fr) :
    Ends (fun k => spec_l8Next.j1 k (B L) (at_ : Int) (num : Int) (n : Int) (fr : Int) false)
      (if (L.take (fr + n + 1)).drop at_ = lineL num ((L.take (fr + n)).drop fr) then (B ((L.take (fr + n)).drop fr), ((lineL num ((L.take (fr + n)).drop fr)).length : Int)) else (B [], 0)) := by
  refine Ends.succ ?_ (fun k => spec_l8Next.j1.eq_2 _ _ _ _ _ _ k)
  rw [w64 (x := (fr : Int) + (n : Int)) (by omega) (by omega), w64 (x := (fr : Int) + (n : Int) + 1) (by omega) (by omega)]
  refine Ends.neg (by decide) (Ends.pos (by omega) (Ends.pos (by omega) (Ends.pos (by rw [B_size]; omega) ?_)))
  have e1 : ((fr : Int) + (n : Int)).toNat = fr + n := by omega
  have e2 : ((fr : Int) + (n : Int) + 1).toNat = fr + n + 1 := by omega
  rw [e1, e2, Int.toNat_natCast, Int.toNat_natCast, B_ext, B_ext]
  refine Ends.bind (line_spec num _ (by omega) (by simp; omega)) ?_
  refine Ends.pos (by omega) (Ends.pos (by omega) (Ends.pos (by rw [B_size]; omega) ?_))
  by_cases h : (L.take (fr + n + 1)).drop at_ = lineL num ((L.take (fr + n)).drop fr)
  · rw [if_pos h]
    exact Ends.pos (B_inj.2 h) (Ends.pure fun k => by rw [B_size])
  · rw [if_neg h]
    exact Ends.neg (fun e => h (B_inj.1 e)) (Ends.pure fun k => rfl)
theorem next_rec (hL : L.length ≤ 1048576) (hnum : num < 1000000) (hat : at_ ≤ L.length) {rec : List UInt8} (h : IsRec L at_ num rec) :
    Ends (fun k => spec_l8Next.f k (B L) (at_ : Int) (num : Int)) (B rec, ((lineL num rec).length : Int)) := by
  obtain ⟨hr1, hr2, z0, hz0⟩ := id h
  have hp : L.drop at_ = dec num ++ 32 :: (dec rec.length ++ 32 :: (tailL num rec ++ z0)) := by rw [hz0, lineL_parts]; simp
  obtain ⟨e1, e2, e3⟩ := drop_parts hat hp
  obtain ⟨f1, f2, f3⟩ := drop_parts (at_ := at_ + (dec num).length + 1) (by omega) e1
  obtain ⟨g1, g2, g3⟩ := rec_lies (num := num) (rec := rec) hat hp rfl rfl
  unfold spec_l8Next.f
  have hf := find_some L (by omega) (dec num) _ at_ hp (dec_nosp num)
  refine Ends.bind (g := fun k => spec_l7Find.f k (B L) (at_ : Int) 32) hf ?_
  refine Ends.neg (by omega) (Ends.pos (by omega) (Ends.pos (by omega) (Ends.pos (by rw [B_size]; omega) ?_)))
  rw [B_ext, Int.toNat_natCast, Int.toNat_natCast, e3]
  refine Ends.bind (num_dec num hnum) ?_
  have hq : ((num : Int) != (num : Int)) = false := by simp
  rw [hq]
  refine Ends.succ ?_ (fun k => spec_l8Next.j0.eq_2 _ _ _ _ _ k)
  refine Ends.neg (by decide) ?_
  rw [w64 (x := ((at_ + (dec num).length : Nat) : Int) + 1) (by omega) (by omega), show ((at_ + (dec num).length : Nat) : Int) + 1 = ((at_ + (dec num).length + 1 : Nat) : Int) by omega]
  have hf2 := find_some L (by omega) (dec rec.length) _ (at_ + (dec num).length + 1) e1 (dec_nosp _)
  refine Ends.bind (g := fun k => spec_l7Find.f k (B L) ((at_ + (dec num).length + 1 : Nat) : Int) 32) hf2 ?_
  refine Ends.neg (by omega) (Ends.pos (by omega) (Ends.pos (by omega) (Ends.pos (by rw [B_size]; omega) ?_)))
  rw [B_ext, Int.toNat_natCast, Int.toNat_natCast, f3]
  refine Ends.bind (num_dec rec.length (by omega)) ?_
  simp only [in_f, Option.bind_some]
  have hd : decide ((1 : Int) ≤ (rec.length : Int) ∧ (rec.length : Int) ≤ 500) = true := by simp; omega
  refine Ends.pos hd ?_
  rw [w64 (x := ((at_ + (dec num).length + 1 + (dec rec.length).length : Nat) : Int) + 18) (by omega) (by omega),
    show ((at_ + (dec num).length + 1 + (dec rec.length).length : Nat) : Int) + 18 = ((at_ + (dec num).length + 1 + (dec rec.length).length + 18 : Nat) : Int) by omega]
  have hg : decide ((wrap64 ((wrap64 (((at_ + (dec num).length + 1 + (dec rec.length).length + 18 : Nat) : Int) + (rec.length : Int))) + 1)) > ((B L).size : Int)) = false := by
    rw [w64 (x := ((at_ + (dec num).length + 1 + (dec rec.length).length + 18 : Nat) : Int) + (rec.length : Int)) (by omega) (by omega), w64 (by omega) (by omega), B_size]
    simp
    omega
  rw [hg]
  have := next_j1 (num := num) hL hnum hat rec.length (at_ + (dec num).length + 1 + (dec rec.length).length + 18) hr1 (by omega) (by omega)
  rw [g1, if_pos g2] at this
  exact this
theorem next_none (hL : L.length ≤ 1048576) (hnum : num < 1000000) (hat : at_ ≤ L.length) (h : ∀ rec, ¬ IsRec L at_ num rec) :
    Ends (fun k => spec_l8Next.f k (B L) (at_ : Int) (num : Int)) (B [], 0) := by
  unfold spec_l8Next.f
  rcases first_space (L.drop at_) with hs | ⟨p, q, hp, hn⟩
  · refine Ends.bind (g := fun k => spec_l7Find.f k (B L) (at_ : Int) 32) (find_none L (by omega) (L.length - at_) at_ (by omega) hs) ?_
    exact Ends.pos (by decide) (next_stop hL)
  · obtain ⟨e1, e2, e3⟩ := drop_parts hat hp
    refine Ends.bind (g := fun k => spec_l7Find.f k (B L) (at_ : Int) 32) (find_some L (by omega) p q at_ hp hn) ?_
    refine Ends.neg (by omega) (Ends.pos (by omega) (Ends.pos (by omega) (Ends.pos (by rw [B_size]; omega) ?_)))
    rw [B_ext, Int.toNat_natCast, Int.toNat_natCast, e3]
    obtain ⟨v, hv, _⟩ := num_total p
    refine Ends.bind hv ?_
    by_cases hvn : v = (num : Int)
    · have hq : (v != (num : Int)) = false := by simp [hvn]
      rw [hq]
      refine Ends.succ ?_ (fun k => spec_l8Next.j0.eq_2 _ _ _ _ _ k)
      refine Ends.neg (by decide) ?_
      rw [w64 (x := ((at_ + p.length : Nat) : Int) + 1) (by omega) (by omega), show ((at_ + p.length : Nat) : Int) + 1 = ((at_ + p.length + 1 : Nat) : Int) by omega]
      rcases first_space (L.drop (at_ + p.length + 1)) with hs | ⟨p2, q2, hp2, hn2⟩
      · refine Ends.bind (g := fun k => spec_l7Find.f k (B L) ((at_ + p.length + 1 : Nat) : Int) 32) (find_none L (by omega) (L.length - (at_ + p.length + 1)) _ (by omega) hs) ?_
        exact Ends.pos (by decide) (Ends.pure fun k => rfl)
      · obtain ⟨f1, f2, f3⟩ := drop_parts (at_ := at_ + p.length + 1) (by omega) hp2
        refine Ends.bind (g := fun k => spec_l7Find.f k (B L) ((at_ + p.length + 1 : Nat) : Int) 32) (find_some L (by omega) p2 q2 _ hp2 hn2) ?_
        refine Ends.neg (by omega) (Ends.pos (by omega) (Ends.pos (by omega) (Ends.pos (by rw [B_size]; omega) ?_)))
        rw [B_ext, Int.toNat_natCast, Int.toNat_natCast, f3]
        obtain ⟨v2, hv2, hv2a, hv2b⟩ := num_total p2
        refine Ends.bind hv2 ?_
        simp only [in_f, Option.bind_some]
        by_cases hin : (1 : Int) ≤ v2 ∧ v2 ≤ 500
        · refine Ends.pos (by simpa using hin) ?_
          obtain ⟨n, rfl⟩ := Int.eq_ofNat_of_zero_le (show 0 ≤ v2 by omega)
          rw [w64 (x := ((at_ + p.length + 1 + p2.length : Nat) : Int) + 18) (by omega) (by omega),
            show ((at_ + p.length + 1 + p2.length : Nat) : Int) + 18 = ((at_ + p.length + 1 + p2.length + 18 : Nat) : Int) by omega]
          by_cases hfit : at_ + p.length + 1 + p2.length + 18 + n + 1 ≤ L.length
          · have hg : decide ((wrap64 ((wrap64 (((at_ + p.length + 1 + p2.length + 18 : Nat) : Int) + (n : Int))) + 1)) > ((B L).size : Int)) = false := by
              rw [w64 (x := ((at_ + p.length + 1 + p2.length + 18 : Nat) : Int) + (n : Int)) (by omega) (by omega), w64 (by omega) (by omega), B_size]
              simp
              omega
            rw [hg]
            have hj := next_j1 (num := num) hL hnum hat n (at_ + p.length + 1 + p2.length + 18) (by omega) hfit (by omega)
            rw [if_neg ?_] at hj
            · exact hj
            · intro he
              have hlr : ((L.take (at_ + p.length + 1 + p2.length + 18 + n)).drop (at_ + p.length + 1 + p2.length + 18)).length = n := by simp; omega
              refine h _ ⟨by rw [hlr]; omega, by rw [hlr]; omega, (L.drop at_).drop (at_ + p.length + 1 + p2.length + 18 + n + 1 - at_), ?_⟩
              rw [← he, List.drop_take]
              exact (List.take_append_drop _ _).symm
          · have hg : decide ((wrap64 ((wrap64 (((at_ + p.length + 1 + p2.length + 18 : Nat) : Int) + (n : Int))) + 1)) > ((B L).size : Int)) = true := by
              rw [w64 (x := ((at_ + p.length + 1 + p2.length + 18 : Nat) : Int) + (n : Int)) (by omega) (by omega), w64 (by omega) (by omega), B_size]
              simp
              omega
            rw [hg]
            exact next_stop1
        · exact Ends.neg (by simpa using hin) next_stop1
    · have hq : (v != (num : Int)) = true := by simp [hvn]
      rw [hq]
      exact next_stop hL
end
/-! ### the program -/
theorem occ_sp : ∀ (l : List UInt8), Lib.occAt (32 :: l) [32] 0 = true := fun l => by simp [Lib.occAt]
theorem occ_no (l : List UInt8) (j : Nat) (h : (32 : UInt8) ∉ l) : Lib.occAt l [32] j = false := by
  unfold Lib.occAt
  cases hq : l.drop j with
  | nil => rfl
  | cons b r =>
    have hb : b ∈ l := List.mem_of_mem_drop (i := j) (by rw [hq]; exact List.mem_cons_self)
    have : ((32 : UInt8) == b) = false := by
      rw [beq_eq_false_iff_ne]
      intro e
      exact h (by rw [e]; exact hb)
    simp [List.isPrefixOf, this]
theorem cut_some (p q : List UInt8) (hn : (32 : UInt8) ∉ p) : Lib.cut (p ++ 32 :: q) [32] = (p, q, true) := by
  have hi : Lib.index (p ++ 32 :: q) [32] = (p.length : Int) := by
    refine Lib.index_first (by simp) ?_ (fun j hj => ?_)
    · unfold Lib.occAt
      rw [List.drop_left' rfl]
      simp
    · unfold Lib.occAt
      rw [List.drop_append_of_le_length (by omega)]
      cases hq : p.drop j with
      | nil =>
        have := congrArg List.length hq
        simp at this
        omega
      | cons b r =>
        have hb : b ∈ p := List.mem_of_mem_drop (i := j) (by rw [hq]; exact List.mem_cons_self)
        have : ((32 : UInt8) == b) = false := by
          rw [beq_eq_false_iff_ne]
          intro e
          exact hn (by rw [e]; exact hb)
        simp [List.isPrefixOf, this]
  unfold Lib.cut
  rw [hi, if_pos (by omega), Int.toNat_natCast, List.take_left' rfl]
  have : p ++ 32 :: q = (p ++ [32]) ++ q := by simp
  rw [this, List.drop_left' (by simp)]
theorem cut_none (l : List UInt8) (hn : (32 : UInt8) ∉ l) : Lib.cut l [32] = (l, [], false) := by
  unfold Lib.cut
  rw [Lib.index_none (fun j _ => occ_no l j hn), if_neg (by decide)]
theorem Cut_f (l : List UInt8) (h : l.length < 4294967281) : strings_Cut.f (B l) (⟨#[32]⟩ : ByteArray) = some (B (Lib.cut l [32]).1, B (Lib.cut l [32]).2.1, (Lib.cut l [32]).2.2) := by
  unfold strings_Cut.f
  rw [if_pos (by rw [B_size]; exact h)]
theorem number_f (l : List UInt8) (h : l.length < 4294967281) : impl_number.f (B l) = some (numB (B l)) := by
  unfold impl_number.f
  rw [if_pos (by rw [B_size]; omega)]
theorem prefix_f (l p : List UInt8) (hl : l.length < 4611686018427387904) (hp : p.length < 4611686018427387904) : strings_HasPrefix.f (B l) (B p) = some (decide (p <+: l)) := by
  unfold strings_HasPrefix.f stringslite_HasPrefix.f
  rw [B_size, B_size]
  by_cases h : (l.length : Int) ≥ (p.length : Int)
  · rw [if_pos h, if_pos (by omega), if_pos (by omega), Option.bind_some, Int.toNat_natCast, B_ext, B_list, B_list, List.drop_zero]
    congr 1
    rw [Bool.eq_iff_iff, beq_iff_eq, decide_eq_true_eq]
    constructor
    · intro e
      rw [← e]
      exact List.take_prefix _ _
    · intro e
      exact (List.prefix_iff_eq_take.1 e).symm
  · rw [if_neg h, Option.bind_some]
    congr 1
    rw [eq_comm, decide_eq_false_iff_not]
    intro e
    have := e.length_le
    omega
section
variable {L : List UInt8} {at_ : Nat} {out : List ByteArray}
theorem impl_stop {x12 x14 : Int} : Ends (fun k => impl_LogRead.j1 k (B L) out (at_ : Int) x12 x14 true) (out, (at_ : Int)) := by
  refine Ends.succ ?_ (fun k => impl_LogRead.j1.eq_2 _ _ _ _ _ _ k)
  exact Ends.pos rfl (Ends.pure fun k => rfl)
theorem impl_step (hL : L.length ≤ 1048576) (hnum : out.length < 1000000) (hat : at_ ≤ L.length) {r : List ByteArray × Int}
    (h1 : ∀ rec, IsRec L at_ out.length rec → Ends (fun k => impl_LogRead.l0 k (B L) (out ++ [B rec]) ((at_ + (lineL out.length rec).length : Nat) : Int)) r)
    (h2 : (∀ rec, ¬ IsRec L at_ out.length rec) → r = (out, (at_ : Int))) :
    Ends (fun k => impl_LogRead.l0 k (B L) out (at_ : Int)) r := by
  have hDl : (L.drop at_).length ≤ 1048576 := by simp; omega
  refine Ends.succ ?_ (fun k => impl_LogRead.l0.eq_2 _ _ _ k)
  refine Ends.pos (by omega) (Ends.pos (by rw [B_size]; omega) ?_)
  rw [Int.toNat_natCast, B_size, B_ext, List.take_length]
  simp only [Cut_f (L.drop at_) (by omega), Option.bind_some]
  have hsz : ∀ s : List UInt8, s = (Lib.cut (Lib.cut (L.drop at_) [32]).2.1 [32]).1 → s.length ≤ 1048576 := by
    intro s hs
    have hc : ∀ l : List UInt8, (Lib.cut l [32]).1.length ≤ l.length ∧ (Lib.cut l [32]).2.1.length ≤ l.length := by
      intro l
      rcases first_space l with h | ⟨p, q, rfl, h⟩
      · rw [cut_none l h]; simp
      · rw [cut_some p q h]; simp; omega
    rw [hs]
    have := (hc (Lib.cut (L.drop at_) [32]).2.1).1
    have := (hc (L.drop at_)).2
    omega
  have hrl : (Lib.cut (L.drop at_) [32]).2.1.length ≤ 1048576 := by
    rcases first_space (L.drop at_) with h | ⟨p, q, e, h⟩
    · rw [cut_none _ h]; simp
    · have := congrArg List.length e
      rw [e, cut_some p q h]
      simp at this ⊢
      omega
  simp only [Cut_f (Lib.cut (L.drop at_) [32]).2.1 (by omega), Option.bind_some]
  obtain ⟨size, hsize⟩ : ∃ s, s = (Lib.cut (Lib.cut (L.drop at_) [32]).2.1 [32]).1 := ⟨_, rfl⟩
  have hsl := hsz size hsize
  rw [← hsize]
  simp only [number_f size (by omega), Option.bind_some, itoa_f out.length (by omega), B_size]
  have l1 := dec_len out.length 18 (by omega)
  have hhead : (wrap64 ((wrap64 ((wrap64 (((dec out.length).length : Int) + 1)) + (size.length : Int))) + 18)) = (((dec out.length).length + 1 + size.length + 18 : Nat) : Int) := by
    rw [w64 (x := ((dec out.length).length : Int) + 1) (by omega) (by omega), w64 (x := ((dec out.length).length : Int) + 1 + (size.length : Int)) (by omega) (by omega), w64 (by omega) (by omega)]
    omega
  simp only [hhead]
  -- what stands where a record stands
  have told : ∀ rec, IsRec L at_ out.length rec → size = dec rec.length := by
    intro rec hrec
    obtain ⟨hr1, hr2, z0, hz0⟩ := id hrec
    have hp : L.drop at_ = dec out.length ++ 32 :: (dec rec.length ++ 32 :: (tailL out.length rec ++ z0)) := by rw [hz0, lineL_parts]; simp
    rw [hsize, hp, cut_some _ _ (dec_nosp _), cut_some _ _ (dec_nosp _)]
  have stop : (∀ rec, ¬ IsRec L at_ out.length rec) → ∀ {x12 x14 : Int}, Ends (fun k => impl_LogRead.j1 k (B L) out (at_ : Int) x12 x14 true) r := fun hno => by
    rw [h2 hno]
    exact fun {_ _} => impl_stop
  obtain ⟨v, ok, hnb⟩ : ∃ v ok, numB (B size) = (v, ok) := ⟨_, _, rfl⟩
  rw [hnb]
  cases ok with
  | false =>
    refine Ends.neg (by simp) (stop fun rec hrec => ?_)
    rw [told rec hrec, numB_dec rec.length (by have := hrec.2.1; omega)] at hnb
    simp at hnb
  | true =>
    refine Ends.pos rfl ?_
    obtain ⟨m, rfl, hm⟩ := numB_true hnb
    simp only [within_f, Option.bind_some]
    by_cases hin : (1 : Int) ≤ (m : Int) ∧ (m : Int) ≤ 500
    · refine Ends.pos (by simpa using hin) ?_
      have hfitw : decide ((wrap64 ((L.length : Int) - (at_ : Int))) < (wrap64 ((wrap64 ((((dec out.length).length + 1 + size.length + 18 : Nat) : Int) + (m : Int))) + 1))) = decide (L.length < at_ + (dec out.length).length + 1 + size.length + 18 + m + 1) := by
        rw [w64 (x := (L.length : Int) - (at_ : Int)) (by omega) (by omega), w64 (x := (((dec out.length).length + 1 + size.length + 18 : Nat) : Int) + (m : Int)) (by omega) (by omega), w64 (by omega) (by omega)]
        apply decide_eq_decide.2
        omega
      rw [hfitw]
      by_cases hfit : L.length < at_ + (dec out.length).length + 1 + size.length + 18 + m + 1
      · rw [decide_eq_true hfit]
        refine stop fun rec hrec => ?_
        obtain ⟨hr1, hr2, z0, hz0⟩ := id hrec
        have e1 := told rec hrec
        have e2 : m = rec.length := dec_inj (hm.symm.trans e1)
        have := congrArg List.length hz0
        rw [List.length_drop, List.length_append, lineL_len] at this
        rw [e1] at hfit
        omega
      · rw [decide_eq_false hfit]
        refine Ends.succ ?_ (fun k => impl_LogRead.j1.eq_2 _ _ _ _ _ _ k)
        refine Ends.neg (by decide) ?_
        rw [w64 (x := (at_ : Int) + (((dec out.length).length + 1 + size.length + 18 : Nat) : Int)) (by omega) (by omega), w64 (x := (at_ : Int) + (((dec out.length).length + 1 + size.length + 18 : Nat) : Int) + (m : Int)) (by omega) (by omega)]
        refine Ends.pos (by omega) (Ends.pos (by omega) (Ends.pos (by rw [B_size]; omega) ?_))
        have t1 : ((at_ : Int) + (((dec out.length).length + 1 + size.length + 18 : Nat) : Int)).toNat = at_ + (dec out.length).length + 1 + size.length + 18 := by omega
        have t2 : ((at_ : Int) + (((dec out.length).length + 1 + size.length + 18 : Nat) : Int) + (m : Int)).toNat = at_ + (dec out.length).length + 1 + size.length + 18 + m := by omega
        rw [t1, t2, B_ext, Int.toNat_natCast, B_size, B_ext, List.take_length]
        obtain ⟨rec, hrecd⟩ : ∃ rec, rec = (L.take (at_ + (dec out.length).length + 1 + size.length + 18 + m)).drop (at_ + (dec out.length).length + 1 + size.length + 18) := ⟨_, rfl⟩
        rw [← hrecd]
        have hrl2 : rec.length = m := by rw [hrecd]; simp; omega
        have hll := lineL_len out.length rec
        have l2 := dec_len rec.length 18 (by omega)
        refine Ends.bind (line_impl out.length rec (by omega) (by omega)) ?_
        refine Ends.pos (by omega) (Ends.pos (by omega) ?_)
        simp only [prefix_f (L.drop at_) (lineL out.length rec) (by omega) (by omega), Option.bind_some]
        by_cases hpre : lineL out.length rec <+: L.drop at_
        · refine Ends.pos (by simpa using hpre) (Ends.pos (by omega) ?_)
          rw [B_size, w64 (by omega) (by omega), show (at_ : Int) + ((lineL out.length rec).length : Int) = ((at_ + (lineL out.length rec).length : Nat) : Int) by omega]
          obtain ⟨z, hz⟩ := hpre
          exact h1 rec ⟨by omega, by omega, z, hz.symm⟩
        · refine Ends.neg (by simpa using hpre) ?_
          rw [h2 fun rec' hrec' => ?_]
          · exact Ends.pure fun k => rfl
          · refine hpre ?_
            obtain ⟨hr1, hr2, z0, hz0⟩ := id hrec'
            have hp : L.drop at_ = dec out.length ++ 32 :: (dec rec'.length ++ 32 :: (tailL out.length rec' ++ z0)) := by rw [hz0, lineL_parts]; simp
            have e1 := told rec' hrec'
            have e2 : m = rec'.length := dec_inj (hm.symm.trans e1)
            obtain ⟨g1, g2, g3⟩ := rec_lies (num := out.length) (rec := rec') hat hp rfl rfl
            have e3 : rec = rec' := by
              rw [hrecd, e1, e2]
              exact g1
            rw [e3]
            exact ⟨z0, hz0.symm⟩
    · refine Ends.neg (by simpa using hin) (stop fun rec hrec => hin ?_)
      have e2 : m = rec.length := dec_inj (hm.symm.trans (told rec hrec))
      have := hrec.1
      have := hrec.2.1
      omega
end
/-! ### all records -/
theorem read_all (L : List UInt8) (hL : L.length ≤ 1048576) : ∀ (d at_ : Nat) (out : List ByteArray), L.length - at_ ≤ d → at_ ≤ L.length → 23 * out.length ≤ at_ →
    ∃ (res : List ByteArray) (n : Nat), n ≤ L.length ∧ 23 * res.length ≤ n ∧ Ends (fun k => spec_l8Read.l0 k (B L) out (at_ : Int)) (res, (n : Int)) ∧ Ends (fun k => impl_LogRead.l0 k (B L) out (at_ : Int)) (res, (n : Int)) := by
  intro d
  induction d with
  | zero =>
    intro at_ out h1 h2 h3
    have hno : ∀ rec, ¬ IsRec L at_ out.length rec := by
      rintro rec ⟨_, _, z, hz⟩
      have := congrArg List.length hz
      rw [List.length_drop, List.length_append, lineL_len] at this
      omega
    refine ⟨out, at_, h2, h3, ?_, ?_⟩
    · refine Ends.succ ?_ (fun k => spec_l8Read.l0.eq_2 _ _ _ k)
      refine Ends.bind (next_none hL (by omega) h2 hno) ?_
      exact Ends.pos rfl (Ends.pure fun k => rfl)
    · exact impl_step hL (by omega) h2 (fun rec hrec => absurd hrec (hno rec)) (fun _ => rfl)
  | succ d ih =>
    intro at_ out h1 h2 h3
    by_cases hrec : ∃ rec, IsRec L at_ out.length rec
    · obtain ⟨rec, hrec⟩ := hrec
      obtain ⟨hr1, hr2, z, hz⟩ := id hrec
      have hlen := congrArg List.length hz
      have hll := lineL_len out.length rec
      have hp1 := dec_pos out.length
      have hp2 := dec_pos rec.length
      rw [List.length_drop, List.length_append] at hlen
      obtain ⟨res, n, hn, hn23, i1, i2⟩ := ih (at_ + (lineL out.length rec).length) (out ++ [B rec]) (by omega) (by omega) (by simp; omega)
      refine ⟨res, n, hn, hn23, ?_, ?_⟩
      · refine Ends.succ ?_ (fun k => spec_l8Read.l0.eq_2 _ _ _ k)
        refine Ends.bind (next_rec hL (by omega) h2 hrec) ?_
        refine Ends.neg (by show ¬ ((lineL out.length rec).length : Int) = 0; omega) (Ends.pos (by omega) ?_)
        show Ends (fun k => spec_l8Read.l0 k (B L) (out ++ [B rec]) (wrap64 ((at_ : Int) + ((lineL out.length rec).length : Int)))) _
        rw [w64 (by omega) (by omega)]
        rw [show (at_ : Int) + ((lineL out.length rec).length : Int) = ((at_ + (lineL out.length rec).length : Nat) : Int) by omega]
        exact i1
      · refine impl_step hL (by omega) h2 (fun rec' hrec' => ?_) (fun hno => absurd hrec (hno rec))
        have : rec' = rec := by
          have a1 := next_rec hL (by omega) h2 hrec
          have a2 := next_rec hL (by omega) h2 hrec'
          have := (Prod.mk.inj (Ends.uniq a2 a1)).1
          have := congrArg ByteArray.toList this
          rwa [B_list, B_list] at this
        rw [this]
        exact i2
    · have hno : ∀ rec, ¬ IsRec L at_ out.length rec := fun rec h => hrec ⟨rec, h⟩
      refine ⟨out, at_, h2, h3, ?_, ?_⟩
      · refine Ends.succ ?_ (fun k => spec_l8Read.l0.eq_2 _ _ _ k)
        refine Ends.bind (next_none hL (by omega) h2 hno) ?_
        exact Ends.pos rfl (Ends.pure fun k => rfl)
      · exact impl_step hL (by omega) h2 (fun rec hrec => absurd hrec (hno rec)) (fun _ => rfl)
theorem read_both (s : ByteArray) (hs : s.size ≤ 1048576) : ∃ (res : List ByteArray) (n : Nat), n ≤ s.size ∧ 23 * res.length ≤ n ∧ Ends (fun k => spec_l8Read.f k s) (res, (n : Int)) ∧ Ends (fun k => impl_LogRead.f k s) (res, (n : Int)) := by
  have hl : s.data.toList.length ≤ 1048576 := by
    rw [Array.length_toList]
    exact hs
  obtain ⟨res, n, h1, h2, h3, h4⟩ := read_all s.data.toList hl s.data.toList.length 0 [] (by omega) (by omega) (by simp)
  rw [← B_of s] at h3 h4
  exact ⟨res, n, by rw [Array.length_toList] at h1; exact h1, h2, h3, h4⟩
end Go.Proofs.YtagdiodhdnebaaaDoor.P
