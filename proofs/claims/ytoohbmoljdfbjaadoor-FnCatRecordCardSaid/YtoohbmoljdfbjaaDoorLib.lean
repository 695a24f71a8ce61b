/- strings.Cut, strconv.Itoa and the program's number, in the print's contract form: out of the shelf's contracts. -/
import Derived.Test.YtoohbmoljdfbjaaDoorGlob
import Derived.WalkKit
import Derived.WideLaws
namespace Go.Proofs.YtoohbmoljdfbjaaDoor.P
open Go.RowKit Go.Proofs.YtoohbmoljdfbjaaDoorW.PrintWords
theorem below_grow (w : World) (k : Nat) (os : Array Obj) : Below w.heap.size w (Go.Sort.grow (w.drewN k) os) :=
  ⟨rfl, rfl, rfl, by show w.heap.size ≤ (w.heap ++ os).size; rw [Array.size_append]; omega, fun i hi => by
    show (w.heap ++ os)[i]? = w.heap[i]?
    rw [Array.getElem?_append_left hi]⟩
theorem below_bytes (w : World) (e : TypeId) (t : ByteArray) : Below w.heap.size w (Lib.bytesWorld w e t) :=
  ⟨rfl, rfl, rfl, by rw [Lib.bytesWorld_size]; omega, fun i hi => Lib.bytesWorld_at_old w e t i hi⟩

def strings_Cut.f (s sep : ByteArray) : Option (ByteArray × ByteArray × Bool) :=
  if s.size < 4294967281 then some (⟨(Lib.cut s.data.toList sep.data.toList).1.toArray⟩, ⟨(Lib.cut s.data.toList sep.data.toList).2.1.toArray⟩, (Lib.cut s.data.toList sep.data.toList).2.2) else none
theorem strings_Cut.calls (a0 a1 : ByteArray) (r1 r2 : ByteArray) (r3 : Bool) (w : World) (hG : Glob w) (h : strings_Cut.f a0 a1 = some (r1, r2, r3)) :
    Calls Tryd.prog 25 #[.string a0, .string a1] w fun e w' => e = .returned (.tuple #[.string r1, .string r2, .bool r3]) ∧ Drawn0 w w' := by
  unfold strings_Cut.f at h
  split at h
  · rename_i hs
    simp only [Option.some.injEq, Prod.mk.injEq] at h
    obtain ⟨rfl, rfl, rfl⟩ := h
    obtain ⟨m, hm⟩ := hG.ml
    exact (Tryd.strings_Cut a0 a1 m w hs hm).mono fun e w' ⟨he, n, hn⟩ => ⟨he, ⟨n, hn⟩⟩
  · cases h

def strconv_Itoa.f (n : Int) : Option ByteArray := if -9223372036854775808 ≤ n ∧ n ≤ 9223372036854775807 then some ⟨(Lib.itoa n).toArray⟩ else none
theorem strconv_Itoa.calls (a0 : Int) (r : ByteArray) (w : World) (hG : Glob w) (h : strconv_Itoa.f a0 = some r) :
    Calls Tryd.prog 15 #[.int .i64 a0] w fun e w' => e = .returned (.string r) ∧ Below w.heap.size w w' := by
  unfold strconv_Itoa.f at h
  split at h
  · rename_i hs
    obtain rfl := Option.some.inj h
    exact (Tryd.strconv_Itoa a0 hs.1 hs.2 w hG.p10).mono fun e w' ⟨he, k, os, hn⟩ => ⟨he, hn ▸ below_grow w k os⟩
  · cases h

def numB (s : ByteArray) : Int × Bool :=
  match Lib.atoiAll s.data.toList with
  | .ok n => if n < 0 then (0, false) else if 6 < s.size then (0, false) else if Lib.itoa n = s.data.toList then (n, true) else (0, false)
  | _ => (0, false)
def impl_number.f (s : ByteArray) : Option (Int × Bool) := if s.size ≤ 281474976710656 then some (numB s) else none

theorem number_bad (s : ByteArray) (w : World) (v : Int)
    (hA : Calls Tryd.prog 37 #[.string s] w fun e w' => ∃ N : Nat, e = .returned (.tuple #[.int .i64 v, .iface 92 (.pointer (some ⟨N, 0, none⟩))]) ∧ Below w.heap.size w w') :
    Calls Tryd.prog 26 #[.string s] w fun e w' => e = .returned (.tuple #[.int .i64 0, .bool false]) ∧ Below w.heap.size w w' := by
  have hu := Tryd.underlying65
  go_enter Tryd.func26, Tryd.ntmps26
  go_wp2_with (go_at_call 37; refine hA.mono ?_; rintro e w' ⟨N, rfl, hb⟩)
  go_ret2
  exact ⟨rfl, hb⟩
theorem atoi_calls (s : ByteArray) (hs : s.size ≤ 281474976710656) (n : Int) (h : Lib.atoiAll s.data.toList = .ok n) (w : World) :
    Calls Tryd.prog 37 #[.string s] w fun e w' => e = .returned (.tuple #[.int .i64 n, .nilIface]) ∧ Below w.heap.size w w' :=
  (Tryd.strconv_Atoi_ok s (by omega) n h w).mono fun e w' ⟨he, hw⟩ => ⟨he, by
    rcases hw with rfl | ⟨t, rfl⟩
    · exact Below.refl _ _
    · exact below_bytes _ _ _⟩
theorem number_neg (s : ByteArray) (w : World) (n : Int) (hn : n < 0)
    (hA : Calls Tryd.prog 37 #[.string s] w fun e w' => e = .returned (.tuple #[.int .i64 n, .nilIface]) ∧ Below w.heap.size w w') :
    Calls Tryd.prog 26 #[.string s] w fun e w' => e = .returned (.tuple #[.int .i64 0, .bool false]) ∧ Below w.heap.size w w' := by
  have hu := Tryd.underlying65
  have hd : decide (n < 0) = true := decide_eq_true hn
  go_enter Tryd.func26, Tryd.ntmps26
  go_wp2_with (go_at_call 37; refine hA.mono ?_; rintro e w' ⟨rfl, hb⟩)
  go_ret2
  exact ⟨rfl, hb⟩
set_option maxRecDepth 100000 in
theorem number_long (s : ByteArray) (w : World) (n : Int) (hn : ¬ n < 0) (hl : 6 < s.size)
    (hA : Calls Tryd.prog 37 #[.string s] w fun e w' => e = .returned (.tuple #[.int .i64 n, .nilIface]) ∧ Below w.heap.size w w') :
    Calls Tryd.prog 26 #[.string s] w fun e w' => e = .returned (.tuple #[.int .i64 0, .bool false]) ∧ Below w.heap.size w w' := by
  have hu := Tryd.underlying65
  have hd : decide (n < 0) = false := decide_eq_false hn
  have hd2 : decide (6 < s.size) = true := decide_eq_true hl
  go_enter Tryd.func26, Tryd.ntmps26
  go_wp2_with (go_at_call 37; refine hA.mono ?_; rintro e w' ⟨rfl, hb⟩)
  go_ret2
  exact ⟨rfl, hb⟩
set_option maxRecDepth 100000 in
theorem number_text (s : ByteArray) (w : World) (n : Int) (hG : Glob w) (hn : ¬ n < 0) (hn2 : n ≤ 9223372036854775807) (hl : ¬ 6 < s.size)
    (hA : Calls Tryd.prog 37 #[.string s] w fun e w' => e = .returned (.tuple #[.int .i64 n, .nilIface]) ∧ Below w.heap.size w w') :
    Calls Tryd.prog 26 #[.string s] w fun e w' => e = .returned (if Lib.itoa n = s.data.toList then .tuple #[.int .i64 n, .bool true] else .tuple #[.int .i64 0, .bool false]) ∧ Below w.heap.size w w' := by
  have hu := Tryd.underlying65
  have hd : decide (n < 0) = false := decide_eq_false hn
  have hd2 : decide (6 < s.size) = false := decide_eq_false hl
  have HG := Aside0.mk hG
  clear hG
  have ht : strconv_Itoa.f n = some ⟨(Lib.itoa n).toArray⟩ := by unfold strconv_Itoa.f; rw [if_pos ⟨by omega, by omega⟩]
  have HT := Aside0.mk ht
  clear ht
  by_cases he : Lib.itoa n = s.data.toList
  · have hq : (Lib.itoa n == s.toList) = true := by rw [ByteArray.toList_eq]; simp [he]
    rw [if_pos he]
    clear he
    go_enter Tryd.func26, Tryd.ntmps26
    go_wp2_with (first | (go_at_call 37; refine hA.mono ?_; rintro e w' ⟨rfl, hb⟩) | (go_at_call 15; refine (strconv_Itoa.calls n _ _ (HG.out.on (by assumption)) HT.out).mono ?_; rintro e w2 ⟨rfl, hb2⟩))
    go_ret2
    exact ⟨rfl, below_then hb hb.size hb2⟩
  · have hq : (Lib.itoa n == s.toList) = false := by rw [ByteArray.toList_eq]; simpa using he
    rw [if_neg he]
    clear he
    go_enter Tryd.func26, Tryd.ntmps26
    go_wp2_with (first | (go_at_call 37; refine hA.mono ?_; rintro e w' ⟨rfl, hb⟩) | (go_at_call 15; refine (strconv_Itoa.calls n _ _ (HG.out.on (by assumption)) HT.out).mono ?_; rintro e w2 ⟨rfl, hb2⟩))
    go_ret2
    exact ⟨rfl, below_then hb hb.size hb2⟩
theorem atoi_le {l : List UInt8} {n : Int} (h : Lib.atoiAll l = .ok n) (h0 : ¬ n < 0) : n ≤ 9223372036854775807 := by
  unfold Lib.atoiAll at h
  split at h
  · cases h
  · dsimp only at h
    split at h
    · cases h
    · cases h
    · rename_i u _
      split at h
      · cases h
      · rename_i h1
        split at h
        · cases h
        · injection h with h
          split at h <;> omega
theorem impl_number.calls (a0 : ByteArray) (r1 : Int) (r2 : Bool) (w : World) (hG : Glob w) (h : impl_number.f a0 = some (r1, r2)) :
    Calls Tryd.prog 26 #[.string a0] w fun e w' => e = .returned (.tuple #[.int .i64 r1, .bool r2]) ∧ Below w.heap.size w w' := by
  unfold impl_number.f at h
  split at h
  · rename_i hs
    have h := Option.some.inj h
    unfold numB at h
    split at h
    · rename_i n hn
      have hA := atoi_calls a0 hs n hn w
      split at h
      · rename_i h1
        obtain ⟨rfl, rfl⟩ := Prod.mk.inj h
        exact number_neg a0 w n h1 hA
      · rename_i h1
        split at h
        · rename_i h2
          obtain ⟨rfl, rfl⟩ := Prod.mk.inj h
          exact number_long a0 w n h1 h2 hA
        · rename_i h2
          have ht := number_text a0 w n hG h1 (atoi_le hn h1) h2 hA
          split at h
          · rename_i h3
            obtain ⟨rfl, rfl⟩ := Prod.mk.inj h
            rw [if_pos h3] at ht
            exact ht
          · rename_i h3
            obtain ⟨rfl, rfl⟩ := Prod.mk.inj h
            rw [if_neg h3] at ht
            exact ht
    · rename_i hx
      obtain ⟨rfl, rfl⟩ := Prod.mk.inj h
      rcases hv : Lib.atoiAll a0.data.toList with n | _ | _
      · exact absurd hv (hx n)
      · obtain ⟨tp, p, hp⟩ := hG.es
        exact number_bad a0 w 0 ((Tryd.strconv_Atoi_syntax_var a0 hs hv tp p w hp).mono fun e w' ⟨N, he, _, _, hb⟩ => ⟨N, he, hb⟩)
      · obtain ⟨tp, p, hp⟩ := hG.er
        exact number_bad a0 w _ ((Tryd.strconv_Atoi_range_var a0 hs hv tp p w hp).mono fun e w' ⟨N, he, _, _, hb⟩ => ⟨N, he, hb⟩)
  · cases h
end Go.Proofs.YtoohbmoljdfbjaaDoor.P
