/- Plain law of the log: what is added, and torn. -/
import Derived.Test.YtagdiodhdnebaaaDoorPLog4
import Derived.Test.YtagdiodhdnebaaaDoorPx
set_option linter.unusedVariables false
set_option linter.unusedSimpArgs false
namespace Go.Proofs.YtagdiodhdnebaaaDoor.P
open Go.RowKit Go.Proofs.YtagdiodhdnebaaaDoorW.PrintWords Go.Proofs.YtagdiodhdnebaaaDoorW.PrintMore
theorem ext_all (x : ByteArray) : x.extract 0 x.size = x := by simp
theorem okS (s : ByteArray) {res : List ByteArray} {n : Nat} (h3 : Ends (fun k => spec_l8Read.f k s) (res, (n : Int))) : Ends (fun k => spec_LogOk.f k s) (decide (n = s.size ∧ n ≤ 9000)) := by
  refine Ends.bind h3 ?_
  by_cases h : n = s.size
  · exact Ends.pos (by show (n : Int) = _; omega) (Ends.pure fun k => by simp [h]; omega)
  · exact Ends.neg (by show ¬ (n : Int) = _; omega) (Ends.pure fun k => by simp [h])
theorem okI (s : ByteArray) {res : List ByteArray} {n : Nat} (h3 : Ends (fun k => impl_LogRead.f k s) (res, (n : Int))) : Ends (fun k => impl_LogOk.f k s) (decide (n = s.size ∧ n ≤ 9000)) := by
  refine Ends.bind h3 ?_
  by_cases h : n = s.size
  · exact Ends.pos (by show (n : Int) = _; omega) (Ends.pure fun k => by simp [h]; omega)
  · exact Ends.neg (by show ¬ (n : Int) = _; omega) (Ends.pure fun k => by simp [h])
/-- Both functions add alike. -/
theorem add_both (s t : ByteArray) (hs : s.size ≤ 1048576) : ∃ (x : ByteArray) (ok : Bool), Ends (fun k => spec_LogAdd.f k s t) (x, ok) ∧ Ends (fun k => impl_LogAdd.f k s t) (x, ok) ∧ (ok = true → ∃ y : ByteArray, x = s ++ y ∧ x.size = s.size + y.size ∧ x.size ≤ 9000 ∧ ∃ res, Ends (fun k => impl_LogRead.f k s) (res, (s.size : Int)) ∧ y = B (lineL res.length t.data.toList) ∧ 1 ≤ t.size ∧ t.size ≤ 500) ∧ (ok = false → x = B []) := by
  obtain ⟨res, n, h1, h2, h3, h4⟩ := read_both s hs
  have stopS : Ends (fun k => spec_LogAdd.j0 k s t res true) (B [], false) := by
    refine Ends.succ ?_ (fun k => spec_LogAdd.j0.eq_2 _ _ _ _ k)
    exact Ends.pos rfl (Ends.pure fun k => rfl)
  have stopI : Ends (fun k => impl_LogAdd.j0 k s t res true) (B [], false) := by
    refine Ends.succ ?_ (fun k => impl_LogAdd.j0.eq_2 _ _ _ _ k)
    exact Ends.pos rfl (Ends.pure fun k => rfl)
  by_cases hok : n = s.size ∧ n ≤ 9000
  · by_cases hin : (1 : Int) ≤ (t.size : Int) ∧ (t.size : Int) ≤ 500
    · have htl : t.data.toList.length = t.size := Array.length_toList
      have hd : decide ((1 : Int) ≤ (t.size : Int) ∧ (t.size : Int) ≤ 500) = true := decide_eq_true hin
      have l1 := line_spec res.length t.data.toList (by omega) (by omega)
      have l2 := line_impl res.length t.data.toList (by omega) (by omega)
      rw [← B_of t] at l1 l2
      have hll := lineL_len res.length t.data.toList
      have q1 := dec_len res.length 18 (by omega)
      have q2 := dec_len t.data.toList.length 18 (by omega)
      have hsz : (s ++ B (lineL res.length t.data.toList)).size = s.size + (lineL res.length t.data.toList).length := by rw [ByteArray.size_append, B_size (lineL res.length t.data.toList)]
      obtain ⟨x, ok, e1, e2, e3⟩ : ∃ (x : ByteArray) (ok : Bool), Ends (fun k => spec_LogAdd.j0 k s t res false) (x, ok) ∧ Ends (fun k => impl_LogAdd.j0 k s t res false) (x, ok) ∧ (ok = true → ∃ y : ByteArray, x = s ++ y ∧ x.size = s.size + y.size ∧ x.size ≤ 9000 ∧ ∃ res, Ends (fun k => impl_LogRead.f k s) (res, (s.size : Int)) ∧ y = B (lineL res.length t.data.toList) ∧ 1 ≤ t.size ∧ t.size ≤ 500) ∧ (ok = false → x = B []) := by
        by_cases hbig : ((s ++ B (lineL res.length t.data.toList)).size : Int) > 9000
        · refine ⟨B [], false, ?_, ?_, by simp, fun _ => rfl⟩
          · refine Ends.succ ?_ (fun k => spec_LogAdd.j0.eq_2 _ _ _ _ k)
            exact Ends.neg (by decide) (Ends.bind l1 (Ends.pos (by rw [B_size (lineL res.length t.data.toList)]; omega) (Ends.pos hbig (Ends.pure fun k => rfl))))
          · refine Ends.succ ?_ (fun k => impl_LogAdd.j0.eq_2 _ _ _ _ k)
            exact Ends.neg (by decide) (Ends.bind l2 (Ends.pos (by rw [B_size (lineL res.length t.data.toList)]; omega) (Ends.pos hbig (Ends.pure fun k => rfl))))
        · refine ⟨s ++ B (lineL res.length t.data.toList), true, ?_, ?_, fun _ => ⟨B (lineL res.length t.data.toList), rfl, by rw [hsz, B_size (lineL res.length t.data.toList)], by omega, res, by rw [← hok.1]; exact h4, rfl, by omega, by omega⟩, by simp⟩
          · refine Ends.succ ?_ (fun k => spec_LogAdd.j0.eq_2 _ _ _ _ k)
            exact Ends.neg (by decide) (Ends.bind l1 (Ends.pos (by rw [B_size (lineL res.length t.data.toList)]; omega) (Ends.neg hbig (Ends.pure fun k => rfl))))
          · refine Ends.succ ?_ (fun k => impl_LogAdd.j0.eq_2 _ _ _ _ k)
            exact Ends.neg (by decide) (Ends.bind l2 (Ends.pos (by rw [B_size (lineL res.length t.data.toList)]; omega) (Ends.neg hbig (Ends.pure fun k => rfl))))
      refine ⟨x, ok, ?_, ?_, e3⟩
      · refine Ends.bind h3 (Ends.bind (okS s h3) (Ends.pos (by simpa using hok) ?_))
        simp only [in_f, Option.bind_some]
        rw [hd]
        exact e1
      · refine Ends.bind h4 (Ends.pos (by show (n : Int) = _; omega) (Ends.neg (by show ¬ (n : Int) > 9000; omega) ?_))
        simp only [within_f, Option.bind_some]
        rw [hd]
        exact e2
    · have hd : decide ((1 : Int) ≤ (t.size : Int) ∧ (t.size : Int) ≤ 500) = false := decide_eq_false hin
      refine ⟨B [], false, ?_, ?_, by simp, fun _ => rfl⟩
      · refine Ends.bind h3 (Ends.bind (okS s h3) (Ends.pos (by simpa using hok) ?_))
        simp only [in_f, Option.bind_some]
        rw [hd]
        exact stopS
      · refine Ends.bind h4 (Ends.pos (by show (n : Int) = _; omega) (Ends.neg (by show ¬ (n : Int) > 9000; omega) ?_))
        simp only [within_f, Option.bind_some]
        rw [hd]
        exact stopI
  · refine ⟨B [], false, ?_, ?_, by simp, fun _ => rfl⟩
    · exact Ends.bind h3 (Ends.bind (okS s h3) (Ends.neg (by simpa using hok) stopS))
    · refine Ends.bind h4 ?_
      by_cases h5 : n = s.size
      · exact Ends.pos (by show (n : Int) = _; omega) (Ends.pos (by show (n : Int) > 9000; omega) stopI)
      · exact Ends.neg (by show ¬ (n : Int) = _; omega) stopI
/-- Both functions tear alike. -/
theorem torn_both (a0 a1 : ByteArray) (a2 : Int) (hs : a0.size ≤ 1048576) (hw : -9223372036854775808 ≤ a2 ∧ a2 ≤ 9223372036854775807) :
    ∃ r : ByteArray, Ends (fun k => spec_LogTorn.f k a0 a1 a2) r ∧ Ends (fun k => impl_LogTorn.f k a0 a1 a2) r ∧
      ∃ (x : ByteArray) (ok : Bool), Ends (fun k => impl_LogAdd.f k a0 a1) (x, ok) ∧ (ok = false → r = a0) ∧ (ok = true → ∃ m : Nat, a0.size + m ≤ x.size ∧ r = x.extract 0 (a0.size + m)) := by
  obtain ⟨x, ok, h1, h2, h3, _⟩ := add_both a0 a1 hs
  cases ok with
  | false =>
    refine ⟨a0, Ends.bind h1 (Ends.neg (by simp) ?_), Ends.bind h2 (Ends.neg (by simp) (Ends.pure fun k => rfl)), x, false, h2, fun _ => rfl, by simp⟩
    refine Ends.succ ?_ (fun k => spec_LogTorn.j0.eq_2 _ _ _ _ k)
    exact Ends.pos rfl (Ends.pure fun k => rfl)
  | true =>
    obtain ⟨y, rfl, hsz, hle, _⟩ := h3 rfl
    have w1 : wrap64 (((a0 ++ y).size : Int) - (a0.size : Int)) = (y.size : Int) := by rw [hsz, w64 (by omega) (by omega)]; omega
    have hall : (a0 ++ y).extract 0 (a0 ++ y).size = a0 ++ y := ext_all _
    obtain ⟨m, hm, hmy⟩ : ∃ m : Nat, mn (mx a2 0) (y.size : Int) = (m : Int) ∧ m ≤ y.size := by
      refine ⟨(mn (mx a2 0) (y.size : Int)).toNat, ?_, ?_⟩ <;> unfold mn mx <;> split <;> (try split) <;> omega
    have w2 : wrap64 ((a0.size : Int) + (m : Int)) = ((a0.size + m : Nat) : Int) := by rw [w64 (by omega) (by omega)]; omega
    refine ⟨(a0 ++ y).extract 0 (a0.size + m), Ends.bind h1 (Ends.pos rfl ?_), Ends.bind h2 (Ends.pos rfl ?_), a0 ++ y, true, h2, by simp, fun _ => ⟨m, by omega, rfl⟩⟩
    · refine Ends.succ ?_ (fun k => spec_LogTorn.j0.eq_2 _ _ _ _ k)
      by_cases hneg : a2 < 0
      · refine Ends.pos (by simpa using hneg) (Ends.pure fun k => ?_)
        have : m = 0 := by
          unfold mn mx at hm
          (repeat' split at hm) <;> omega
        subst this
        congr 1
        simp [ByteArray.extract_append_eq_left]
      · refine Ends.neg (by simpa using hneg) ?_
        rw [w1]
        by_cases hbig : a2 > (y.size : Int)
        · refine Ends.pos hbig (Ends.pure fun k => ?_)
          have : m = y.size := by
            unfold mn mx at hm
            (repeat' split at hm) <;> omega
          rw [this, ← hsz, hall]
        · have hm2 : a2 = (m : Int) := by
            unfold mn mx at hm
            (repeat' split at hm) <;> omega
          refine Ends.neg hbig ?_
          rw [hm2, w2]
          have e9 : ((a0 ++ y, true) : ByteArray × Bool).1.size = (a0 ++ y).size := rfl
          exact Ends.pos (by omega) (Ends.pos (by omega) (Ends.pure fun k => by rw [Int.toNat_natCast]))
    · simp only [w1, hm, w2]
      have e9 : ((a0 ++ y, true) : ByteArray × Bool).1.size = (a0 ++ y).size := rfl
      exact Ends.pos (by omega) (Ends.pos (by omega) (Ends.pure fun k => by rw [Int.toNat_natCast]))
end Go.Proofs.YtagdiodhdnebaaaDoor.P
