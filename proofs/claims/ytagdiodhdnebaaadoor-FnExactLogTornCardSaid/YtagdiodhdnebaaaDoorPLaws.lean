/- Plain law of the log: the five exact laws. -/
import Derived.Test.YtagdiodhdnebaaaDoorPLog4
import Derived.Test.YtagdiodhdnebaaaDoorPx5
set_option linter.unusedVariables false
set_option linter.unusedSimpArgs false
namespace Go.Proofs.YtagdiodhdnebaaaDoor.P
open Go.RowKit Go.Proofs.YtagdiodhdnebaaaDoorW.PrintWords Go.Proofs.YtagdiodhdnebaaaDoorW.PrintMore
theorem ext_all (x : ByteArray) : x.extract 0 x.size = x := by simp
theorem mend_pure : laws_FnExactLogMend.Pure := by
  intro a0 _
  by_cases hs : (a0.size : Int) > 1048576
  · exact ⟨0, if_pos hs⟩
  · obtain ⟨res, n, h1, h2, h3, h4⟩ := read_both a0 (by omega)
    refine Ends.get (Ends.neg hs ?_)
    refine Ends.bind (a := a0.extract 0 n) (Ends.bind h3 (Ends.pos (by omega) (Ends.pos (by omega) (Ends.pure fun k => by simp)))) ?_
    refine Ends.bind (a := a0.extract 0 n) (Ends.bind h4 (Ends.pos (by omega) (Ends.pos (by omega) (Ends.pure fun k => by simp)))) ?_
    exact Ends.pos rfl (Ends.pure fun k => rfl)
theorem okS (s : ByteArray) {res : List ByteArray} {n : Nat} (h3 : Ends (fun k => spec_l8Read.f k s) (res, (n : Int))) : Ends (fun k => spec_LogOk.f k s) (decide (n = s.size ∧ n ≤ 9000)) := by
  refine Ends.bind h3 ?_
  by_cases h : n = s.size
  · exact Ends.pos (by show (n : Int) = _; omega) (Ends.pure fun k => by simp [h]; omega)
  · exact Ends.neg (by show ¬ (n : Int) = _; omega) (Ends.pure fun k => by simp [h])
theorem okI (s : ByteArray) {res : List ByteArray} {n : Nat} (h3 : Ends (fun k => impl_LogRead.f k s) (res, (n : Int))) : Ends (fun k => impl_LogOk.f k s) (decide (n = s.size ∧ n ≤ 9000)) := by
  refine Ends.bind h3 ?_
  by_cases h : n = s.size
  · exact Ends.pos (by show (n : Int) = _; omega) (Ends.pure fun k => by simp [h]; omega)
  · exact Ends.neg (by show ¬ (n : Int) = _; omega) (Ends.pure fun k => by simp [h])
theorem ok_pure : laws_FnExactLogOk.Pure := by
  intro a0 _
  by_cases hs : (a0.size : Int) > 1048576
  · exact ⟨0, if_pos hs⟩
  · obtain ⟨res, n, h1, h2, h3, h4⟩ := read_both a0 (by omega)
    refine Ends.get (Ends.neg hs ?_)
    refine Ends.bind (okS a0 h3) (Ends.bind (okI a0 h4) ?_)
    exact Ends.neg (by simp) (Ends.pure fun k => rfl)
/-- Both functions add alike. -/
theorem add_both (s t : ByteArray) (hs : s.size ≤ 1048576) : ∃ (x : ByteArray) (ok : Bool), Ends (fun k => spec_LogAdd.f k s t) (x, ok) ∧ Ends (fun k => impl_LogAdd.f k s t) (x, ok) ∧ (ok = true → ∃ y : ByteArray, x = s ++ y ∧ x.size = s.size + y.size ∧ x.size ≤ 9000) := by
  obtain ⟨res, n, h1, h2, h3, h4⟩ := read_both s hs
  have stopS : Ends (fun k => spec_LogAdd.j0 k s t res true) (B [], false) := by
    refine Ends.succ ?_ (fun k => spec_LogAdd.j0.eq_2 _ _ _ _ k)
    exact Ends.pos rfl (Ends.pure fun k => rfl)
  have stopI : Ends (fun k => impl_LogAdd.j0 k s t res true) (B [], false) := by
    refine Ends.succ ?_ (fun k => impl_LogAdd.j0.eq_2 _ _ _ _ k)
    exact Ends.pos rfl (Ends.pure fun k => rfl)
  by_cases hok : n = s.size ∧ n ≤ 9000
  · by_cases hin : (1 : Int) ≤ (t.size : Int) ∧ (t.size : Int) ≤ 500
    · have htl : t.data.toList.length = t.size := Array.length_toList
      have hd : decide ((1 : Int) ≤ (t.size : Int) ∧ (t.size : Int) ≤ 500) = true := decide_eq_true hin
      have l1 := line_spec res.length t.data.toList (by omega) (by omega)
      have l2 := line_impl res.length t.data.toList (by omega) (by omega)
      rw [← B_of t] at l1 l2
      have hll := lineL_len res.length t.data.toList
      have q1 := dec_len res.length 18 (by omega)
      have q2 := dec_len t.data.toList.length 18 (by omega)
      have hsz : (s ++ B (lineL res.length t.data.toList)).size = s.size + (lineL res.length t.data.toList).length := by rw [ByteArray.size_append, B_size (lineL res.length t.data.toList)]
      obtain ⟨x, ok, e1, e2, e3⟩ : ∃ (x : ByteArray) (ok : Bool), Ends (fun k => spec_LogAdd.j0 k s t res false) (x, ok) ∧ Ends (fun k => impl_LogAdd.j0 k s t res false) (x, ok) ∧ (ok = true → ∃ y : ByteArray, x = s ++ y ∧ x.size = s.size + y.size ∧ x.size ≤ 9000) := by
        by_cases hbig : ((s ++ B (lineL res.length t.data.toList)).size : Int) > 9000
        · refine ⟨B [], false, ?_, ?_, by simp⟩
          · refine Ends.succ ?_ (fun k => spec_LogAdd.j0.eq_2 _ _ _ _ k)
            exact Ends.neg (by decide) (Ends.bind l1 (Ends.pos (by rw [B_size (lineL res.length t.data.toList)]; omega) (Ends.pos hbig (Ends.pure fun k => rfl))))
          · refine Ends.succ ?_ (fun k => impl_LogAdd.j0.eq_2 _ _ _ _ k)
            exact Ends.neg (by decide) (Ends.bind l2 (Ends.pos (by rw [B_size (lineL res.length t.data.toList)]; omega) (Ends.pos hbig (Ends.pure fun k => rfl))))
        · refine ⟨s ++ B (lineL res.length t.data.toList), true, ?_, ?_, fun _ => ⟨B (lineL res.length t.data.toList), rfl, by rw [hsz, B_size (lineL res.length t.data.toList)], by omega⟩⟩
          · refine Ends.succ ?_ (fun k => spec_LogAdd.j0.eq_2 _ _ _ _ k)
            exact Ends.neg (by decide) (Ends.bind l1 (Ends.pos (by rw [B_size (lineL res.length t.data.toList)]; omega) (Ends.neg hbig (Ends.pure fun k => rfl))))
          · refine Ends.succ ?_ (fun k => impl_LogAdd.j0.eq_2 _ _ _ _ k)
            exact Ends.neg (by decide) (Ends.bind l2 (Ends.pos (by rw [B_size (lineL res.length t.data.toList)]; omega) (Ends.neg hbig (Ends.pure fun k => rfl))))
      refine ⟨x, ok, ?_, ?_, e3⟩
      · refine Ends.bind h3 (Ends.bind (okS s h3) (Ends.pos (by simpa using hok) ?_))
        simp only [in_f, Option.bind_some]
        rw [hd]
        exact e1
      · refine Ends.bind h4 (Ends.pos (by show (n : Int) = _; omega) (Ends.neg (by show ¬ (n : Int) > 9000; omega) ?_))
        simp only [within_f, Option.bind_some]
        rw [hd]
        exact e2
    · have hd : decide ((1 : Int) ≤ (t.size : Int) ∧ (t.size : Int) ≤ 500) = false := decide_eq_false hin
      refine ⟨B [], false, ?_, ?_, by simp⟩
      · refine Ends.bind h3 (Ends.bind (okS s h3) (Ends.pos (by simpa using hok) ?_))
        simp only [in_f, Option.bind_some]
        rw [hd]
        exact stopS
      · refine Ends.bind h4 (Ends.pos (by show (n : Int) = _; omega) (Ends.neg (by show ¬ (n : Int) > 9000; omega) ?_))
        simp only [within_f, Option.bind_some]
        rw [hd]
        exact stopI
  · refine ⟨B [], false, ?_, ?_, by simp⟩
    · exact Ends.bind h3 (Ends.bind (okS s h3) (Ends.neg (by simpa using hok) stopS))
    · refine Ends.bind h4 ?_
      by_cases h5 : n = s.size
      · exact Ends.pos (by show (n : Int) = _; omega) (Ends.pos (by show (n : Int) > 9000; omega) stopI)
      · exact Ends.neg (by show ¬ (n : Int) = _; omega) stopI
theorem add_pure : laws_FnExactLogAdd.Pure := by
  intro a0 a1 _ _
  by_cases hs : (a0.size : Int) > 1048576
  · exact ⟨0, if_pos hs⟩
  · by_cases ht : (a1.size : Int) > 1048576
    · exact ⟨0, (if_neg hs).trans (if_pos ht)⟩
    · obtain ⟨x, ok, h1, h2, _⟩ := add_both a0 a1 (by omega)
      refine Ends.get (Ends.neg hs (Ends.neg ht (Ends.bind h1 (Ends.bind h2 (Ends.pos rfl ?_)))))
      have : (((x, ok) : ByteArray × Bool).2 != ((x, ok) : ByteArray × Bool).2) = false := by simp
      rw [this]
      refine Ends.succ ?_ (fun k => laws_FnExactLogAdd.j0.eq_2 _ k)
      exact Ends.neg (by decide) (Ends.pure fun k => rfl)
theorem torn_pure : laws_FnExactLogTorn.Pure := by
  intro a0 a1 a2 _ _ hw
  have hw : -9223372036854775808 ≤ a2 ∧ a2 ≤ 9223372036854775807 := by
    simpa [Lit.wf, IntKind.min, IntKind.max, IntKind.signed, IntKind.bits] using hw
  by_cases hs : (a0.size : Int) > 1048576
  · exact ⟨0, if_pos hs⟩
  · by_cases ht : (a1.size : Int) > 1048576
    · exact ⟨0, (if_neg hs).trans (if_pos ht)⟩
    · obtain ⟨x, ok, h1, h2, h3⟩ := add_both a0 a1 (by omega)
      refine Ends.get (Ends.neg hs (Ends.neg ht ?_))
      obtain ⟨r, e1, e2⟩ : ∃ r, Ends (fun k => spec_LogTorn.f k a0 a1 a2) r ∧ Ends (fun k => impl_LogTorn.f k a0 a1 a2) r := by
        cases ok with
        | false =>
          refine ⟨a0, Ends.bind h1 (Ends.neg (by simp) ?_), Ends.bind h2 (Ends.neg (by simp) (Ends.pure fun k => rfl))⟩
          refine Ends.succ ?_ (fun k => spec_LogTorn.j0.eq_2 _ _ _ _ k)
          exact Ends.pos rfl (Ends.pure fun k => rfl)
        | true =>
          obtain ⟨y, rfl, hsz, hle⟩ := h3 rfl
          have w1 : wrap64 (((a0 ++ y).size : Int) - (a0.size : Int)) = (y.size : Int) := by rw [hsz, w64 (by omega) (by omega)]; omega
          have hall : (a0 ++ y).extract 0 (a0 ++ y).size = a0 ++ y := ext_all _
          obtain ⟨m, hm, hmy⟩ : ∃ m : Nat, mn (mx a2 0) (y.size : Int) = (m : Int) ∧ m ≤ y.size := by
            refine ⟨(mn (mx a2 0) (y.size : Int)).toNat, ?_, ?_⟩ <;> unfold mn mx <;> split <;> (try split) <;> omega
          have w2 : wrap64 ((a0.size : Int) + (m : Int)) = ((a0.size + m : Nat) : Int) := by rw [w64 (by omega) (by omega)]; omega
          refine ⟨(a0 ++ y).extract 0 (a0.size + m), Ends.bind h1 (Ends.pos rfl ?_), Ends.bind h2 (Ends.pos rfl ?_)⟩
          · refine Ends.succ ?_ (fun k => spec_LogTorn.j0.eq_2 _ _ _ _ k)
            by_cases hneg : a2 < 0
            · refine Ends.pos (by simpa using hneg) (Ends.pure fun k => ?_)
              have : m = 0 := by
                unfold mn mx at hm
                (repeat' split at hm) <;> omega
              subst this
              congr 1
              simp [ByteArray.extract_append_eq_left]
            · refine Ends.neg (by simpa using hneg) ?_
              rw [w1]
              by_cases hbig : a2 > (y.size : Int)
              · refine Ends.pos hbig (Ends.pure fun k => ?_)
                have : m = y.size := by
                  unfold mn mx at hm
                  (repeat' split at hm) <;> omega
                rw [this, ← hsz, hall]
              · have hm2 : a2 = (m : Int) := by
                  unfold mn mx at hm
                  (repeat' split at hm) <;> omega
                refine Ends.neg hbig ?_
                rw [hm2, w2]
                have e9 : ((a0 ++ y, true) : ByteArray × Bool).1.size = (a0 ++ y).size := rfl
                exact Ends.pos (by omega) (Ends.pos (by omega) (Ends.pure fun k => by rw [Int.toNat_natCast]))
          · simp only [w1, hm, w2]
            have e9 : ((a0 ++ y, true) : ByteArray × Bool).1.size = (a0 ++ y).size := rfl
            exact Ends.pos (by omega) (Ends.pos (by omega) (Ends.pure fun k => by rw [Int.toNat_natCast]))
      exact Ends.bind e1 (Ends.bind e2 (Ends.pos rfl (Ends.pure fun k => rfl)))
/-! ### the law of reading: marks -/
theorem mark_loop : ∀ (d n : Nat) (x : ByteArray), n < 10 ^ d → d ≤ 18 → x.size ≤ 20 - d → ∃ r, Ends (fun k => laws_markText.l0 k (n : Int) x) r := by
  intro d
  induction d with
  | zero =>
    intro n x hn hd hx
    refine ⟨(⟨#[109]⟩ : ByteArray) ++ x, Ends.succ ?_ (fun k => laws_markText.l0.eq_2 _ _ k)⟩
    exact (Ends.neg (by simp at hn; omega) (Ends.pos (by omega) (Ends.pure fun k => rfl)))
  | succ d ih =>
    intro n x hn hd hx
    by_cases h0 : (n : Int) > 0
    · have e1 : Int.tmod (n : Int) 10 = ((n % 10 : Nat) : Int) := by rw [Int.tmod_eq_emod_of_nonneg (by omega)]; omega
      have hp : 10 ^ (d + 1) ≤ 10 ^ 18 := Nat.pow_le_pow_right (by decide) (by omega)
      have e2 : wrap64 (Int.tdiv (n : Int) 10) = ((n / 10 : Nat) : Int) := by
        rw [Int.tdiv_eq_ediv_of_nonneg (by omega), w64 (by omega) (by omega)]; omega
      have e3 := str_one (Nat.mod_lt n (show 0 < 10 by decide))
      obtain ⟨r, hr⟩ := ih (n / 10) (B [UInt8.ofNat (48 + n % 10)] ++ x) (by rw [Nat.div_lt_iff_lt_mul (by decide)]; rw [← Nat.pow_succ]; exact hn) (by omega) (by rw [ByteArray.size_append, B_size [UInt8.ofNat (48 + n % 10)]]; simp; omega)
      refine ⟨r, Ends.succ ?_ (fun k => laws_markText.l0.eq_2 _ _ k)⟩
      refine Ends.pos h0 ?_
      simp only [Option.bind_some]
      rw [e1, e2, e3]
      exact Ends.pos (by rw [B_size [UInt8.ofNat (48 + n % 10)]]; simp; omega) hr
    · refine ⟨(⟨#[109]⟩ : ByteArray) ++ x, Ends.succ ?_ (fun k => laws_markText.l0.eq_2 _ _ k)⟩
      exact Ends.neg h0 (Ends.pos (by omega) (Ends.pure fun k => rfl))
theorem mark_ex (n : Nat) (hn : n < 1000000000000000000) : ∃ r, Ends (fun k => laws_markText.f k (n : Int)) r := by
  unfold laws_markText.f
  by_cases h : (n : Int) ≤ 0
  · exact ⟨_, Ends.pos h (Ends.pure fun k => rfl)⟩
  · obtain ⟨r, hr⟩ := mark_loop 18 n (⟨#[]⟩ : ByteArray) (by omega) (by omega) (by decide)
    exact ⟨r, Ends.neg h hr⟩
theorem marks_ex : ∃ M : Nat → ByteArray, ∀ n : Nat, n < 1000000000000000000 → Ends (fun k => laws_markText.f k (n : Int)) (M n) := by
  have h : ∀ n : Nat, ∃ r, n < 1000000000000000000 → Ends (fun k => laws_markText.f k (n : Int)) r := fun n => by
    by_cases hn : n < 1000000000000000000
    · obtain ⟨r, hr⟩ := mark_ex n hn
      exact ⟨r, fun _ => hr⟩
    · exact ⟨⟨#[]⟩, fun h => absurd h hn⟩
  exact ⟨fun n => Classical.choose (h n), fun n => Classical.choose_spec (h n)⟩
theorem eq_loop (l : List ByteArray) (hl : l.length < 1000000000) : ∀ (d i : Nat), i + d = l.length → Ends (fun k => laws_eqStringS.l0 k l l (i : Int)) true
  | 0, i, h => by
    refine Ends.succ ?_ (fun k => laws_eqStringS.l0.eq_2 _ _ _ k)
    exact Ends.neg (by omega) (Ends.pure fun k => rfl)
  | d + 1, i, h => by
    refine Ends.succ ?_ (fun k => laws_eqStringS.l0.eq_2 _ _ _ k)
    refine Ends.pos (by omega) (Ends.pos (by omega) (Ends.pos (by omega) (Ends.pos rfl ?_)))
    rw [w64 (by omega) (by omega), show (i : Int) + 1 = ((i + 1 : Nat) : Int) by omega]
    exact eq_loop l hl d (i + 1) (by omega)
theorem eq_f (l : List ByteArray) (hl : l.length < 1000000000) : Ends (fun k => laws_eqStringS.f k l l) true := Ends.pos rfl (eq_loop l hl l.length 0 (by omega))
def marked (M : Nat → ByteArray) (n : Nat) : List ByteArray := (List.range n).map fun i => M (i + 1)
theorem marked_len (M : Nat → ByteArray) (n : Nat) : (marked M n).length = n := by simp [marked]
section
variable {M : Nat → ByteArray}
theorem mark_list (hM : ∀ n : Nat, n < 1000000000000000000 → Ends (fun k => laws_markText.f k (n : Int)) (M n)) (l : List ByteArray) (hl : l.length < 1000000000) : ∀ (d i : Nat), i + d = l.length → Ends (fun k => laws_markStringS.l0 k (marked M i ++ l.drop i) ((i + 1 : Nat) : Int) (i : Int)) (((l.length + 1 : Nat) : Int), marked M l.length)
  | 0, i, h => by
    obtain rfl : i = l.length := by omega
    refine Ends.succ ?_ (fun k => laws_markStringS.l0.eq_2 _ _ _ k)
    refine Ends.neg (by simp [marked_len]) (Ends.pure fun k => by simp)
  | d + 1, i, h => by
    have e : l.drop i = l[i] :: l.drop (i + 1) := List.drop_eq_getElem_cons (by omega)
    have e2 : (marked M i ++ l.drop i).set i (M (i + 1)) = marked M (i + 1) ++ l.drop (i + 1) := by
      rw [e, List.set_append_right _ _ (by simp [marked_len])]
      simp only [marked_len, Nat.sub_self, List.set_cons_zero]
      simp [marked, List.range_succ]
    refine Ends.succ ?_ (fun k => laws_markStringS.l0.eq_2 _ _ _ k)
    refine Ends.pos (by simp [marked_len]; omega) (Ends.bind (hM (i + 1) (by omega)) (Ends.pos (by omega) ?_))
    rw [Int.toNat_natCast, e2, w64 (by omega) (by omega), w64 (by omega) (by omega), show ((i + 1 : Nat) : Int) + 1 = ((i + 1 + 1 : Nat) : Int) by omega, show (i : Int) + 1 = ((i + 1 : Nat) : Int) by omega]
    exact mark_list hM l hl d (i + 1) (by omega)
theorem mark_f (hM : ∀ n : Nat, n < 1000000000000000000 → Ends (fun k => laws_markText.f k (n : Int)) (M n)) (l : List ByteArray) (hl : l.length < 1000000000) : Ends (fun k => laws_markStringS.f k l 1) (((l.length + 1 : Nat) : Int), marked M l.length) := by
  have := mark_list hM l hl l.length 0 (by omega)
  simpa [marked, laws_markStringS.f] using this
theorem held_list (hM : ∀ n : Nat, n < 1000000000000000000 → Ends (fun k => laws_markText.f k (n : Int)) (M n)) (n : Nat) (hn : n < 1000000000) : ∀ (d i : Nat), i + d = n → Ends (fun k => laws_heldStringS.l0 k (marked M n) ((i + 1 : Nat) : Int) (i : Int)) ((n + 1 : Nat) : Int)
  | 0, i, h => by
    obtain rfl : i = n := by omega
    refine Ends.succ ?_ (fun k => laws_heldStringS.l0.eq_2 _ _ _ k)
    exact Ends.neg (by simp [marked_len]) (Ends.pure fun k => rfl)
  | d + 1, i, h => by
    refine Ends.succ ?_ (fun k => laws_heldStringS.l0.eq_2 _ _ _ k)
    have e : rdOf ByteArray.empty (marked M n) (i : Int) = M (i + 1) := by simp [rdOf, marked, show i < n by omega]
    refine Ends.pos (by simp [marked_len]; omega) (Ends.pos (by omega) (Ends.bind (hM (i + 1) (by omega)) (Ends.pos (by rw [e]) ?_)))
    rw [w64 (by omega) (by omega), w64 (by omega) (by omega), show ((i + 1 : Nat) : Int) + 1 = ((i + 1 + 1 : Nat) : Int) by omega, show (i : Int) + 1 = ((i + 1 : Nat) : Int) by omega]
    exact held_list hM n hn d (i + 1) (by omega)
theorem held_f (hM : ∀ n : Nat, n < 1000000000000000000 → Ends (fun k => laws_markText.f k (n : Int)) (M n)) (n : Nat) (hn : n < 1000000000) : Ends (fun k => laws_heldStringS.f k (marked M n) 1) ((n + 1 : Nat) : Int) := by
  have := held_list hM n hn n 0 (by omega)
  simpa [laws_heldStringS.f] using this
end
theorem read_pure : laws_FnExactLogRead.Pure := by
  intro a0 _
  by_cases hs : (a0.size : Int) > 1048576
  · exact ⟨0, if_pos hs⟩
  · obtain ⟨res, n, h1, h2, h3, h4⟩ := read_both a0 (by omega)
    obtain ⟨M, hM⟩ := marks_ex
    have hl : res.length < 1000000000 := by omega
    have hne : ∀ x : Int, (x != x) = false := fun x => by simp
    refine Ends.get (Ends.neg hs ?_)
    refine Ends.bind (a := (res, (n : Int))) (Ends.bind h3 (Ends.pure fun k => rfl)) (Ends.bind h4 (Ends.bind (eq_f res hl) (Ends.pos rfl ?_)))
    dsimp only
    rw [hne]
    refine Ends.succ ?_ (fun k => laws_FnExactLogRead.j0.eq_2 _ _ _ _ _ k)
    refine Ends.neg (by decide) (Ends.bind (mark_f hM res hl) (Ends.bind (a := ((res.length + 1 : Nat) : Int)) (held_f hM res.length hl) (Ends.neg (by omega) (Ends.pos rfl (Ends.bind h4 (Ends.bind (eq_f res hl) (Ends.pos rfl ?_)))))))
    dsimp only
    rw [hne]
    refine Ends.succ ?_ (fun k => laws_FnExactLogRead.j1.eq_2 _ _ _ k)
    exact Ends.neg (by decide) (Ends.bind (a := ((res.length + 1 : Nat) : Int)) (held_f hM res.length hl) (Ends.neg (by omega) (Ends.pos rfl (Ends.pure fun k => rfl))))
end Go.Proofs.YtagdiodhdnebaaaDoor.P
