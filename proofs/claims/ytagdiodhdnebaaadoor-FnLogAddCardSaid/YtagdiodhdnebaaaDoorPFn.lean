/- Plain law of the log: the three laws over drawn logs. -/
import Derived.Test.YtagdiodhdnebaaaDoorPDraw
set_option linter.unusedVariables false
set_option linter.unusedSimpArgs false
namespace Go.Proofs.YtagdiodhdnebaaaDoor.P
open Go.RowKit Go.Proofs.YtagdiodhdnebaaaDoorW.PrintWords Go.Proofs.YtagdiodhdnebaaaDoorW.PrintMore
/-- What is read, from a place on, behind what was read. -/
inductive Reads (L : List UInt8) : Nat → List ByteArray → List ByteArray → Nat → Prop
  | stop (at_ : Nat) (out : List ByteArray) (h : ∀ rec, ¬ IsRec L at_ out.length rec) : Reads L at_ out out at_
  | step (at_ : Nat) (out : List ByteArray) (rec : List UInt8) (res : List ByteArray) (n : Nat) (h : IsRec L at_ out.length rec) (r : Reads L (at_ + (lineL out.length rec).length) (out ++ [B rec]) res n) : Reads L at_ out res n
theorem isRec_len {L : List UInt8} {at_ num : Nat} {rec : List UInt8} (h : IsRec L at_ num rec) : at_ + (lineL num rec).length ≤ L.length ∧ 23 ≤ (lineL num rec).length := by
  obtain ⟨h1, h2, z, hz⟩ := h
  have hlen := congrArg List.length hz
  have hll := lineL_len num rec
  have hp1 := dec_pos num
  have hp2 := dec_pos rec.length
  rw [List.length_drop, List.length_append] at hlen
  omega
theorem isRec_one {L : List UInt8} (hL : L.length ≤ 1048576) {at_ num : Nat} (hn : num < 1000000) (hat : at_ ≤ L.length) {r1 r2 : List UInt8} (h1 : IsRec L at_ num r1) (h2 : IsRec L at_ num r2) : r1 = r2 := by
  have a1 := next_rec hL hn hat h1
  have a2 := next_rec hL hn hat h2
  have := (Prod.mk.inj (Ends.uniq a1 a2)).1
  have := congrArg ByteArray.toList this
  rwa [B_list, B_list] at this
theorem Reads.le {L : List UInt8} {at_ n : Nat} {out res : List ByteArray} (h : Reads L at_ out res n) : at_ ≤ n := by
  induction h with
  | stop => exact Nat.le_refl _
  | step at_ out rec res n h r ih => omega
theorem Reads.ends {L : List UInt8} (hL : L.length ≤ 1048576) {at_ n : Nat} {out res : List ByteArray} (h : Reads L at_ out res n) : at_ ≤ L.length → 23 * out.length ≤ at_ → n ≤ L.length ∧ Ends (fun k => impl_LogRead.l0 k (B L) out (at_ : Int)) (res, (n : Int)) := by
  induction h with
  | stop at_ out hno => exact fun h1 h2 => ⟨h1, impl_step hL (by omega) h1 (fun rec hrec => absurd hrec (hno rec)) (fun _ => rfl)⟩
  | step at_ out rec res n h r ih =>
    intro h1 h2
    obtain ⟨h3, h4⟩ := isRec_len h
    obtain ⟨i1, i2⟩ := ih (by omega) (by simp; omega)
    exact ⟨i1, impl_step hL (by omega) h1 (fun rec' hrec' => by rw [isRec_one hL (by omega) h1 hrec' h]; exact i2) (fun hno => absurd h (hno rec))⟩
theorem reads_ex {L : List UInt8} : ∀ (d at_ : Nat) (out : List ByteArray), L.length - at_ ≤ d → ∃ res n, Reads L at_ out res n
  | 0, at_, out, h => ⟨out, at_, .stop at_ out fun rec hrec => by have := isRec_len hrec; omega⟩
  | d + 1, at_, out, h => by
    by_cases hr : ∃ rec, IsRec L at_ out.length rec
    · obtain ⟨rec, hr⟩ := hr
      have := isRec_len hr
      obtain ⟨res, n, h1⟩ := reads_ex (L := L) d (at_ + (lineL out.length rec).length) (out ++ [B rec]) (by omega)
      exact ⟨res, n, .step at_ out rec res n hr h1⟩
    · exact ⟨out, at_, .stop at_ out fun rec h => hr ⟨rec, h⟩⟩
/-- What LogRead tells is what is read. -/
theorem reads_of {L : List UInt8} (hL : L.length ≤ 1048576) {res : List ByteArray} {n : Nat} (h : Ends (fun k => impl_LogRead.f k (B L)) (res, (n : Int))) : Reads L 0 [] res n := by
  obtain ⟨res', n', hr⟩ := reads_ex (L := L) L.length 0 [] (by omega)
  have h2 := (hr.ends hL (by omega) (by simp)).2
  obtain ⟨e1, e2⟩ := Prod.mk.inj (Ends.uniq h h2)
  obtain rfl : n = n' := by have e3 : (n : Int) = (n' : Int) := e2; omega
  rw [e1]
  exact hr
theorem of_reads {L : List UInt8} (hL : L.length ≤ 1048576) {res : List ByteArray} {n : Nat} (h : Reads L 0 [] res n) : Ends (fun k => impl_LogRead.f k (B L)) (res, (n : Int)) := (h.ends hL (by omega) (by simp)).2
theorem Reads.take {L : List UInt8} {at_ n : Nat} {out res : List ByteArray} (h : Reads L at_ out res n) : Reads (L.take n) at_ out res n := by
  induction h with
  | stop at_ out hno =>
    refine .stop at_ out fun rec hrec => ?_
    have := isRec_len hrec
    simp at this
    omega
  | step at_ out rec res n h r ih =>
    refine .step at_ out rec res n ?_ ih
    obtain ⟨h1, h2, z, hz⟩ := h
    have hle := r.le
    refine ⟨h1, h2, z.take (n - at_ - (lineL out.length rec).length), ?_⟩
    rw [List.drop_take, hz, List.take_append, List.take_of_length_le (by omega)]
theorem Reads.more {L : List UInt8} {at_ n : Nat} {out res : List ByteArray} (h : Reads L at_ out res n) (X : List UInt8) (res2 : List ByteArray) (n2 : Nat) (hn : n ≤ L.length) (hx : Reads (L ++ X) n res res2 n2) (hat : at_ ≤ L.length) : Reads (L ++ X) at_ out res2 n2 := by
  induction h with
  | stop at_ out hno => exact hx
  | step at_ out rec res n h r ih =>
    have hl := isRec_len h
    refine .step at_ out rec res2 n2 ?_ (ih hn hx hl.1)
    obtain ⟨h1, h2, z, hz⟩ := h
    refine ⟨h1, h2, z ++ X, ?_⟩
    rw [List.drop_append_of_le_length hat, hz, List.append_assoc]
/-- behind all of a log, a line. -/
theorem reads_line {L : List UInt8} {res : List ByteArray} (h : Reads L 0 [] res L.length) (t : List UInt8) (h1 : 1 ≤ t.length) (h2 : t.length ≤ 500) : Reads (L ++ lineL res.length t) 0 [] (res ++ [B t]) (L ++ lineL res.length t).length := by
  refine h.more _ _ _ (Nat.le_refl _) ?_ (Nat.zero_le _)
  have hrec : IsRec (L ++ lineL res.length t) L.length res.length t := ⟨h1, h2, [], by rw [List.drop_left' rfl, List.append_nil]⟩
  refine .step _ _ t _ _ hrec ?_
  rw [List.length_append]
  refine .stop _ _ fun rec hr => ?_
  have := isRec_len hr
  simp at this
  omega
/-- behind all of a log, a part of a line. -/
theorem reads_part {L : List UInt8} {res : List ByteArray} (h : Reads L 0 [] res L.length) (t : List UInt8) (h1 : 1 ≤ t.length) (h2 : t.length ≤ 500) (m : Nat) (hm : m < (lineL res.length t).length) : Reads (L ++ (lineL res.length t).take m) 0 [] res L.length := by
  refine h.more _ _ _ (Nat.le_refl _) ?_ (Nat.zero_le _)
  refine .stop _ _ fun rec hr => ?_
  obtain ⟨g1, g2, z, hz⟩ := hr
  rw [List.drop_left' rfl] at hz
  -- the record's line is ahead of the whole line, too
  have hz2 : lineL res.length t = lineL res.length rec ++ (z ++ (lineL res.length t).drop m) := by
    rw [← List.append_assoc, ← hz, List.take_append_drop]
  have hlen := congrArg List.length hz
  rw [List.length_take, List.length_append] at hlen
  have e := hz2
  generalize (lineL res.length t).drop m = Z at e
  rw [lineL_parts res.length t, lineL_parts res.length rec] at e
  have e' : dec res.length ++ 32 :: (dec t.length ++ 32 :: tailL res.length t) = dec res.length ++ 32 :: (dec rec.length ++ 32 :: (tailL res.length rec ++ (z ++ Z))) := by rw [e]; simp
  have e1 := (space_unique _ _ _ _ e' (dec_nosp _) (dec_nosp _)).2
  have e2 := (space_unique _ _ _ _ e1 (dec_nosp _) (dec_nosp _)).1
  have e3 := dec_inj e2
  have l1 := lineL_len res.length t
  have l2 := lineL_len res.length rec
  rw [e3] at l1
  omega
/-! ### the laws -/
theorem wh_loop (l : List ByteArray) (hl : l.length < 1000000000) : ∀ (d i : Nat), i + d = l.length → Ends (fun k => laws_whWords.l0 k l l (i : Int)) true
  | 0, i, h => by
    refine Ends.succ ?_ (fun k => laws_whWords.l0.eq_2 _ _ _ k)
    exact Ends.neg (by omega) (Ends.pure fun k => rfl)
  | d + 1, i, h => by
    refine Ends.succ ?_ (fun k => laws_whWords.l0.eq_2 _ _ _ k)
    refine Ends.pos (by omega) (Ends.pos (by omega) (Ends.pos (by omega) (Ends.pos rfl ?_)))
    rw [w64 (by omega) (by omega), show (i : Int) + 1 = ((i + 1 : Nat) : Int) by omega]
    exact wh_loop l hl d (i + 1) (by omega)
theorem wh_f (l : List ByteArray) (hl : l.length < 1000000000) : Ends (fun k => laws_whWords.f k l l) true := Ends.pos rfl (wh_loop l hl l.length 0 (by omega))
theorem whIn_f (a b c : Int) : laws_whIn.f a b c = some (decide (b ≤ a ∧ a ≤ c)) := by
  unfold laws_whIn.f
  split
  · rename_i h; simp [show b ≤ a from h]
  · rename_i h; simp [show ¬ b ≤ a from h]
theorem mendS (s : ByteArray) {res : List ByteArray} {n : Nat} (hn : n ≤ s.size) (h : Ends (fun k => spec_l8Read.f k s) (res, (n : Int))) : Ends (fun k => spec_LogMend.f k s) (s.extract 0 n) :=
  Ends.bind h (Ends.pos (by omega) (Ends.pos (by omega) (Ends.pure fun k => by simp)))
theorem mendI (s : ByteArray) {res : List ByteArray} {n : Nat} (hn : n ≤ s.size) (h : Ends (fun k => impl_LogRead.f k s) (res, (n : Int))) : Ends (fun k => impl_LogMend.f k s) (s.extract 0 n) :=
  Ends.bind h (Ends.pos (by omega) (Ends.pos (by omega) (Ends.pure fun k => by simp)))
/-- Mended, a log reads as it did. -/
theorem read_mended (s : ByteArray) (hs : s.size ≤ 1048576) {res : List ByteArray} {n : Nat} (h : Ends (fun k => impl_LogRead.f k s) (res, (n : Int))) : Ends (fun k => impl_LogRead.f k (s.extract 0 n)) (res, (n : Int)) := by
  have hl : s.data.toList.length ≤ 1048576 := by rw [Array.length_toList]; exact hs
  rw [B_of s] at h
  have hr := (reads_of hl h).take
  have := of_reads (L := s.data.toList.take n) (by simp; omega) hr
  have e : s.extract 0 n = B (s.data.toList.take n) := by
    conv => lhs; rw [B_of s]
    rw [B_ext, List.drop_zero]
  rw [e]
  exact this
theorem fnRead_pure : laws_FnLogRead.Pure := by
  intro l0 _ _ hw
  by_cases hs : (l0.length : Int) > 1048576
  · exact ⟨0, if_pos hs⟩
  · obtain ⟨s, hd, hsz⟩ := drawRead_ends hw
    obtain ⟨res, n, h1, h2, h3, h4⟩ := read_both s (by omega)
    have h5 := read_mended s (by omega) h4
    have hl : res.length < 1000000000 := by omega
    refine Ends.get (Ends.neg hs (Ends.bind hd (Ends.bind h4 (Ends.bind (a := (res, (n : Int))) (Ends.bind h3 (Ends.pure fun k => rfl)) (Ends.pos rfl (Ends.bind (wh_f res hl) (Ends.pos rfl (Ends.bind (okI s h4) (Ends.bind (okS s h3) (Ends.neg (by simp) (Ends.bind (mendI s h1 h4) (Ends.bind (mendS s h1 h3) ?_))))))))))))
    have hne : ((s.extract 0 n).toList != (s.extract 0 n).toList) = false := by simp
    rw [hne]
    have fin : Ends (fun k => laws_FnLogRead.j1 k true) true := by
      refine Ends.succ ?_ (fun k => laws_FnLogRead.j1.eq_2 _ k)
      exact Ends.pure fun k => rfl
    refine Ends.succ ?_ (fun k => laws_FnLogRead.j0.eq_2 _ _ _ _ k)
    refine Ends.neg (by decide) (Ends.bind (mendI s h1 h4) (Ends.bind h5 ?_))
    simp only [whIn_f, Option.bind_some]
    refine Ends.pos (by simp; omega) (Ends.pos (by omega) (Ends.pos (by show (n : Int) ≤ (s.size : Int); omega) (Ends.pos (by show (s.extract 0 n).toList = (s.extract 0 ((n : Int)).toNat).toList; rw [Int.toNat_natCast]) (Ends.pos (by first | rfl | trivial) (Ends.bind (wh_f res hl) (Ends.pos rfl (Ends.bind (okI s h4) ?_)))))))
    by_cases hn : n = s.size
    · refine Ends.pos (by show (n : Int) = _; omega) ?_
      have e : (decide (n = s.size ∧ n ≤ 9000) == decide ((n : Int) ≤ 9000)) = true := by simp [hn]; omega
      rw [e]
      exact fin
    · refine Ends.neg (by show ¬ (n : Int) = _; omega) ?_
      have e : (decide (n = s.size ∧ n ≤ 9000) == false) = true := by simp [hn]
      rw [e]
      exact fin
theorem ext_app (L X : List UInt8) (m : Nat) (hm : m ≤ X.length) : (B (L ++ X)).extract 0 (L.length + m) = B (L ++ X.take m) := by
  rw [B_ext, List.drop_zero, List.take_append, List.take_of_length_le (by omega), show L.length + m - L.length = m by omega]
theorem app_ext (s y : ByteArray) : (s ++ y).extract 0 s.size = s := by
  apply ByteArray.ext
  rw [ByteArray.data_extract, ByteArray.data_append]
  apply Array.toList_inj.1
  have : s.data.toList.length = s.size := Array.length_toList
  simp [Array.toList_extract, List.extract_eq_take_drop]
  exact List.take_of_length_le (by omega)
theorem size_L (s : ByteArray) : s.data.toList.length = s.size := Array.length_toList
/-- What was added is read behind all else. -/
theorem read_added (s t : ByteArray) (hs : s.size ≤ 9000) {res : List ByteArray} (h : Ends (fun k => impl_LogRead.f k s) (res, (s.size : Int))) (h1 : 1 ≤ t.size) (h2 : t.size ≤ 500) (hx : (s ++ B (lineL res.length t.data.toList)).size ≤ 9000) :
    Ends (fun k => impl_LogRead.f k (s ++ B (lineL res.length t.data.toList))) (res ++ [t], ((s ++ B (lineL res.length t.data.toList)).size : Int)) := by
  have hl := size_L s
  have ht := size_L t
  have hsz : (s ++ B (lineL res.length t.data.toList)).size = s.size + (lineL res.length t.data.toList).length := by rw [ByteArray.size_append, B_size (lineL res.length t.data.toList)]
  have h' := h
  rw [B_of s, B_size s.data.toList] at h'
  have hr := reads_line (reads_of (by omega) h') t.data.toList (by omega) (by omega)
  have := of_reads (by rw [List.length_append]; omega) hr
  rw [← B_of t] at this
  have e : s ++ B (lineL res.length t.data.toList) = B (s.data.toList ++ lineL res.length t.data.toList) := by
    conv => lhs; rw [B_of s]
    rw [B_app]
  rw [List.length_append, hl, ← hsz] at this
  rw [e] at this ⊢
  exact this
theorem read_part (s t : ByteArray) (hs : s.size ≤ 9000) {res : List ByteArray} (h : Ends (fun k => impl_LogRead.f k s) (res, (s.size : Int))) (h1 : 1 ≤ t.size) (h2 : t.size ≤ 500) (m : Nat) (hm : m < (lineL res.length t.data.toList).length) :
    Ends (fun k => impl_LogRead.f k ((s ++ B (lineL res.length t.data.toList)).extract 0 (s.size + m))) (res, (s.size : Int)) := by
  have hl := size_L s
  have ht := size_L t
  have h' := h
  rw [B_of s, B_size s.data.toList] at h'
  have hr := reads_part (reads_of (by omega) h') t.data.toList (by omega) (by omega) m hm
  have hd := dec_len res.length 18 (by
    have := (of_reads (L := s.data.toList) (by omega) (reads_of (by omega) h'))
    obtain ⟨res2, n2, _, b2, _, b4⟩ := read_both s (by omega)
    have e := (Prod.mk.inj (Ends.uniq h b4)).1
    have e2 := (Prod.mk.inj (Ends.uniq h b4)).2
    rw [e]
    omega)
  have hll := lineL_len res.length t.data.toList
  have hd2 := dec_len t.data.toList.length 18 (by omega)
  have := of_reads (by rw [List.length_append, List.length_take]; omega) hr
  have e : (s ++ B (lineL res.length t.data.toList)).extract 0 (s.size + m) = B (s.data.toList ++ (lineL res.length t.data.toList).take m) := by
    conv => lhs; rw [B_of s]
    rw [B_app, B_size s.data.toList, ext_app _ _ _ (by omega)]
  rw [e, ← hl]
  exact this
theorem res_small (s : ByteArray) (hs : s.size ≤ 9000) {res : List ByteArray} {n : Int} (h : Ends (fun k => impl_LogRead.f k s) (res, n)) : res.length ≤ 9000 := by
  obtain ⟨res2, n2, b1, b2, _, b4⟩ := read_both s (by omega)
  have e := (Prod.mk.inj (Ends.uniq h b4)).1
  rw [e]
  omega
theorem fnAdd_pure : laws_FnLogAdd.Pure := by
  intro l0 _ _ hw
  by_cases hs : (l0.length : Int) > 1048576
  · exact ⟨0, if_pos hs⟩
  · obtain ⟨⟨s, t⟩, hd, hsz, htz⟩ := drawAdd_ends hw
    obtain ⟨x, ok, h1, h2, h3, _⟩ := add_both s t (by show s.size ≤ 1048576; have : s.size ≤ 9000 := hsz; omega)
    refine Ends.get (Ends.neg hs (Ends.bind hd (Ends.bind h2 (Ends.bind h1 (Ends.pos rfl (Ends.neg (by simp) ?_))))))
    dsimp only
    cases ok with
    | false =>
      refine Ends.succ ?_ (fun k => laws_FnLogAdd.j0.eq_2 _ _ _ _ _ _ _ k)
      exact Ends.pos rfl (Ends.pos rfl (Ends.pure fun k => rfl))
    | true =>
      obtain ⟨y, rfl, hx, hx9, res, hres, rfl, ht1, ht2⟩ := h3 rfl
      have hsz' : s.size ≤ 9000 := hsz
      have hr := read_added s t hsz' hres ht1 ht2 hx9
      have hl := res_small s hsz' hres
      have hok := okI _ (n := (s ++ B (lineL res.length t.data.toList)).size) hr
      have e1 : ((s ++ B (lineL res.length t.data.toList)).extract 0 s.size) = s := app_ext _ _
      refine Ends.succ ?_ (fun k => laws_FnLogAdd.j0.eq_2 _ _ _ _ _ _ _ k)
      refine Ends.neg (by decide) (Ends.bind hres (Ends.bind hr ?_))
      have w : wrap64 ((res.length : Int) + 1) = (res.length : Int) + 1 := w64 (by omega) (by omega)
      refine Ends.pos rfl (Ends.pos ?_ (Ends.pos (by omega) (Ends.pos ?_ ?_)))
      · show (((res ++ [t]).length : Nat) : Int) = wrap64 ((res.length : Int) + 1)
        rw [w]
        simp
      · show (res.length : Int) ≤ (((res ++ [t]).length : Nat) : Int)
        simp
        omega
      · have e2 : (res ++ [t]).take ((res.length : Int)).toNat = res := by rw [Int.toNat_natCast]; exact List.take_left' rfl
        have e3 : rdOf ByteArray.empty (res ++ [t]) (res.length : Int) = t := by simp [rdOf]
        refine Ends.bind (g := fun k => laws_whWords.f k ((res ++ [t]).take ((res.length : Int)).toNat) res) (by rw [e2]; exact wh_f res (by omega)) (Ends.pos rfl (Ends.pos ?_ (Ends.pos ?_ (Ends.bind hok ?_))))
        · show (res.length : Int) < (((res ++ [t]).length : Nat) : Int)
          simp
          omega
        · show (rdOf ByteArray.empty (res ++ [t]) (res.length : Int)).toList = t.toList
          rw [e3]
        · refine Ends.pos (decide_eq_true ⟨rfl, hx9⟩) (Ends.pos (by omega) (Ends.pos (by omega) ?_))
          have e4 : (((s ++ B (lineL res.length t.data.toList)).extract 0 ((s.size : Int)).toNat).toList == s.toList) = true := by rw [Int.toNat_natCast, e1]; simp
          rw [e4]
          refine Ends.succ ?_ (fun k => laws_FnLogAdd.j1.eq_2 _ k)
          exact Ends.pure fun k => rfl
theorem fnTorn_pure : laws_FnLogTorn.Pure := by
  intro l0 _ _ hw
  by_cases hs : (l0.length : Int) > 1048576
  · exact ⟨0, if_pos hs⟩
  · obtain ⟨s, t, n, hd, hsz, htz, hn1, hn2⟩ := drawTorn_ends hw
    obtain ⟨r, e1, e2, x, ok, e3, hf, ht⟩ := torn_both s t n (by omega) (by omega)
    obtain ⟨res, n', b1, b2, b3, b4⟩ := read_both s (by omega)
    refine Ends.get (Ends.neg hs (Ends.bind hd (Ends.bind e2 (Ends.bind e1 (Ends.pos rfl (Ends.bind (okS s b3) ?_))))))
    refine Ends.succ ?_ (fun k => laws_FnLogTorn.j0.eq_2 _ _ _ _ _ k)
    by_cases ho : n' = s.size ∧ n' ≤ 9000
    · refine Ends.neg (by simp; omega) ?_
      have hres : Ends (fun k => impl_LogRead.f k s) (res, (s.size : Int)) := by rw [← ho.1]; exact b4
      have hl := res_small s hsz hres
      have part : ∀ x' : ByteArray, Ends (fun k => impl_LogRead.f k r) (res, (s.size : Int)) → r.extract 0 s.size = s → s.size ≤ r.size → Ends (fun k => laws_FnLogTorn.j1 k s r res res false) true := by
        intro _ q1 q2 q3
        refine Ends.succ ?_ (fun k => laws_FnLogTorn.j1.eq_2 _ _ _ _ _ k)
        refine Ends.neg (by decide) (Ends.bind (wh_f res (by omega)) (Ends.pos rfl (Ends.bind (mendI r q3 q1) (Ends.pure fun k => ?_))))
        rw [q2]
        simp
      cases ok with
      | false =>
        obtain rfl := hf rfl
        exact Ends.bind e3 (Ends.bind hres (Ends.bind hres (Ends.neg (by simp) (part r hres (ext_all r) (Nat.le_refl _)))))
      | true =>
        obtain ⟨m, hm, rfl⟩ := ht rfl
        obtain ⟨x', ok', _, a2, a3, _⟩ := add_both s t (by omega)
        obtain ⟨rfl, rfl⟩ := Prod.mk.inj (Ends.uniq e3 a2)
        obtain ⟨y, rfl, hx, hx9, res', hres', rfl, ht1, ht2⟩ := a3 rfl
        obtain rfl : res = res' := (Prod.mk.inj (Ends.uniq hres hres')).1
        have hsy : (s ++ B (lineL res.length t.data.toList)).size = s.size + (lineL res.length t.data.toList).length := by rw [ByteArray.size_append, B_size (lineL res.length t.data.toList)]
        by_cases hmm : m < (lineL res.length t.data.toList).length
        · have hr := read_part s t hsz hres ht1 ht2 m hmm
          have hrs : ((s ++ B (lineL res.length t.data.toList)).extract 0 (s.size + m)).size = s.size + m := by rw [ByteArray.size_extract]; omega
          have hne : (((s ++ B (lineL res.length t.data.toList)).extract 0 (s.size + m)).toList == (s ++ B (lineL res.length t.data.toList)).toList) = false := by
            rw [beq_eq_false_iff_ne]
            intro e
            have := congrArg List.length e
            rw [ByteArray.toList_eq, ByteArray.toList_eq, Array.length_toList, Array.length_toList] at this
            have h1 : ((s ++ B (lineL res.length t.data.toList)).extract 0 (s.size + m)).size = (s ++ B (lineL res.length t.data.toList)).size := this
            omega
          have hex : ((s ++ B (lineL res.length t.data.toList)).extract 0 (s.size + m)).extract 0 s.size = s := by
            apply ByteArray.ext
            rw [ByteArray.data_extract, ByteArray.data_extract, ByteArray.data_append]
            apply Array.toList_inj.1
            have := size_L s
            simp [Array.toList_extract, List.extract_eq_take_drop, List.take_take]
            exact List.take_of_length_le (by omega)
          refine Ends.bind e3 (Ends.bind hres (Ends.bind hr (Ends.pos rfl ?_)))
          rw [hne]
          exact part s hr hex (by rw [hrs]; omega)
        · have hmx : s.size + m = (s ++ B (lineL res.length t.data.toList)).size := by omega
          rw [hmx, ext_all]
          have hr := read_added s t hsz hres ht1 ht2 hx9
          refine Ends.bind e3 (Ends.bind hres (Ends.bind hr (Ends.pos rfl ?_)))
          have he : ((s ++ B (lineL res.length t.data.toList)).toList == (s ++ B (lineL res.length t.data.toList)).toList) = true := by simp
          rw [he]
          refine Ends.succ ?_ (fun k => laws_FnLogTorn.j1.eq_2 _ _ _ _ _ k)
          refine Ends.pos rfl (Ends.pure fun k => ?_)
          dsimp only
          rw [w64 (by omega) (by omega)]
          simp
    · refine Ends.pos (by simp; omega) (Ends.bind e1 (Ends.pure fun k => ?_))
      simp
end Go.Proofs.YtagdiodhdnebaaaDoor.P
