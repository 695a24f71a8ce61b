/- Plain laws, first part: functions that come to an end, bytes, what is drawn. -/
import Derived.Test.YtoohbmoljdfbjaaDoorPx
import Derived.Laws.Concat
set_option linter.unusedVariables false
set_option linter.unusedSimpArgs false
namespace Go.Proofs.YtoohbmoljdfbjaaDoor.P
open Go.RowKit Go.Proofs.YtoohbmoljdfbjaaDoorW.PrintWords Go.Proofs.YtoohbmoljdfbjaaDoorW.PrintMore
theorem w64 {x : Int} (h0 : -9223372036854775808 ≤ x) (h1 : x ≤ 9223372036854775807) : wrap64 x = x := by unfold wrap64; omega
/-! ### functions that come to an end -/
def Ends {α : Type} (g : Nat → Option α) (r : α) : Prop := ∃ K, ∀ k, K ≤ k → g k = some r
theorem Ends.of {α : Type} {g : Nat → Option α} (hm : ∀ k, LeO (g k) (g (k + 1))) {k : Nat} {r : α} (h : g k = some r) : Ends g r := ⟨k, fun k' hk => at_rounds hm hk h⟩
theorem Ends.pure {α : Type} {g : Nat → Option α} {r : α} (h : ∀ k, g k = some r) : Ends g r := ⟨0, fun k _ => h k⟩
theorem Ends.bind {α β : Type} {g : Nat → Option α} {f : Nat → α → Option β} {a : α} {r : β} (h1 : Ends g a) (h2 : Ends (fun k => f k a) r) : Ends (fun k => (g k).bind fun x => f k x) r := by
  obtain ⟨K1, h1⟩ := h1
  obtain ⟨K2, h2⟩ := h2
  exact ⟨max K1 K2, fun k hk => by
    show (g k).bind _ = _
    rw [h1 k (by omega)]
    exact h2 k (by omega)⟩
theorem Ends.succ {α : Type} {g f : Nat → Option α} {r : α} (h : Ends f r) (he : ∀ k, g (k + 1) = f k) : Ends g r := by
  obtain ⟨K, h⟩ := h
  refine ⟨K + 1, fun k hk => ?_⟩
  obtain ⟨j, rfl⟩ : ∃ j, k = j + 1 := ⟨k - 1, by omega⟩
  rw [he]
  exact h j (by omega)
theorem Ends.congr {α : Type} {g f : Nat → Option α} {r : α} (h : Ends f r) (he : ∀ k, g k = f k) : Ends g r := by
  obtain ⟨K, h⟩ := h
  exact ⟨K, fun k hk => (he k).trans (h k hk)⟩
theorem Ends.get {α : Type} {g : Nat → Option α} {r : α} (h : Ends g r) : ∃ k, g k = some r := by
  obtain ⟨K, h⟩ := h
  exact ⟨K, h K (Nat.le_refl _)⟩
theorem Ends.pos {α : Type} {p : Prop} [Decidable p] {g f : Nat → Option α} {r : α} (hp : p) (h : Ends g r) : Ends (fun k => if p then g k else f k) r := h.congr fun k => if_pos hp
theorem Ends.neg {α : Type} {p : Prop} [Decidable p] {g f : Nat → Option α} {r : α} (hp : ¬ p) (h : Ends f r) : Ends (fun k => if p then g k else f k) r := h.congr fun k => if_neg hp
/-! ### bytes -/
abbrev B (l : List UInt8) : ByteArray := ⟨l.toArray⟩
theorem B_of (s : ByteArray) : s = B s.data.toList := by cases s; simp
theorem B_size (l : List UInt8) : (B l).size = l.length := by simp [ByteArray.size]
theorem B_app (a b : List UInt8) : B a ++ B b = B (a ++ b) := ByteArray.mk_append_mk a b
theorem B_ext (l : List UInt8) (i j : Nat) : (B l).extract i j = B ((l.take j).drop i) := by
  apply ByteArray.ext
  rw [ByteArray.data_extract]
  apply Array.toList_inj.1
  simp [Array.toList_extract, List.extract_eq_take_drop, List.drop_take]
theorem B_list (l : List UInt8) : (B l).toList = l := by rw [ByteArray.toList_eq]
theorem B_bt (l : List UInt8) (i : Int) : bt (B l) i = ((l.getD i.toNat 0).toNat : Int) := by
  unfold bt
  split
  · rename_i h
    have h' : i.toNat < l.length := by rw [← B_size l]; exact h
    simp [ByteArray.getElem_eq_getElem_data, h']
  · rename_i h
    have h' : ¬ i.toNat < l.length := by rw [← B_size l]; exact h
    simp [h']
theorem xor_nonneg {x y : Int} (hx : 0 ≤ x) (hx2 : x < 4611686018427387904) (hy : 0 ≤ y) (hy2 : y < 4611686018427387904) : 0 ≤ Go.bits .xor .i64 x y := by
  have hn : (x.toNat ^^^ y.toNat) < 2 ^ 62 := Nat.xor_lt_two_pow (by omega) (by omega)
  have e : (BitVec.ofInt IntKind.i64.bits x ^^^ BitVec.ofInt IntKind.i64.bits y).toNat = x.toNat ^^^ y.toNat := by
    have h1 : (BitVec.ofInt IntKind.i64.bits x).toNat = x.toNat := by
      rw [BitVec.toNat_ofInt]
      have : ((2 ^ IntKind.i64.bits : Nat) : Int) = 18446744073709551616 := by decide
      rw [this]
      omega
    have h2 : (BitVec.ofInt IntKind.i64.bits y).toNat = y.toNat := by
      rw [BitVec.toNat_ofInt]
      have : ((2 ^ IntKind.i64.bits : Nat) : Int) = 18446744073709551616 := by decide
      rw [this]
      omega
    rw [BitVec.toNat_xor, h1, h2]
  show 0 ≤ IntKind.i64.wrap (((BitVec.ofInt IntKind.i64.bits x ^^^ BitVec.ofInt IntKind.i64.bits y).toNat : Nat) : Int)
  rw [e, IntKind.wrap_i64]
  omega
theorem tmod_range {x n : Int} (hx : 0 ≤ x) (hn : 1 ≤ n) : 0 ≤ Int.tmod x n ∧ Int.tmod x n < n := by
  rw [Int.tmod_eq_emod_of_nonneg hx]
  exact ⟨Int.emod_nonneg _ (by omega), Int.emod_lt_of_pos _ (by omega)⟩
/-- The bytes that are drawn from. -/
def Bytes (b : List Int) : Prop := (∀ x ∈ b, 0 ≤ x ∧ x ≤ 255) ∧ b.length ≤ 2000
theorem Bytes.at_ {b : List Int} (h : Bytes b) (i : Int) : 0 ≤ rd b i ∧ rd b i ≤ 255 := by
  unfold rd
  by_cases hi : i.toNat < b.length
  · have : b.getD i.toNat 0 = b[i.toNat] := by simp [hi]
    rw [this]
    exact h.1 _ (List.getElem_mem hi)
  · have : b.getD i.toNat 0 = 0 := by simp [hi]
    rw [this]
    omega
theorem pick_ends {b : List Int} (hb : Bytes b) {p n : Int} (hp : 0 ≤ p) (hp2 : p < 1000000000) (hn : n < 1000000000) :
    ∃ v, Ends (fun k => spec_l1Rd_pick.f k b p n) (v, p + 1) ∧ 0 ≤ v ∧ (1 ≤ n → v < n) ∧ (n < 1 → v = 0) := by
  have hbl := hb.2
  have w0 : wrap64 (p + 1) = p + 1 := w64 (by omega) (by omega)
  have stop : ∀ q : Int, Ends (fun k => spec_l1Rd_pick.j0 k n true b q) (0, q) := fun q => by
    refine Ends.succ ?_ (fun k => spec_l1Rd_pick.j0.eq_2 _ _ _ _ k)
    exact Ends.pos rfl (Ends.pure fun k => rfl)
  unfold spec_l1Rd_pick.f
  rw [w0]
  by_cases h1 : n < 1
  · exact ⟨0, Ends.pos h1 (stop _), by omega, by omega, fun _ => rfl⟩
  · by_cases h2 : (b.length : Int) = 0
    · have e : ((b.length : Int) == 0) = true := by simp [h2]
      rw [e]
      exact ⟨0, Ends.neg h1 (stop _), by omega, by omega, fun _ => rfl⟩
    · have e : ((b.length : Int) == 0) = false := by rw [beq_eq_false_iff_ne]; exact h2
      rw [e]
      have w1 : wrap64 (p + 1 - 1) = p := by rw [w64 (by omega) (by omega)]; omega
      by_cases h3 : p < (b.length : Int)
      · obtain ⟨r0, r1⟩ := hb.at_ p
        have w2 : wrap64 (rd b p) = rd b p := w64 (by omega) (by omega)
        obtain ⟨t0, t1⟩ := tmod_range r0 (show 1 ≤ n by omega)
        refine ⟨Int.tmod (rd b p) n, Ends.neg h1 ?_, t0, fun _ => t1, by omega⟩
        refine Ends.succ ?_ (fun k => spec_l1Rd_pick.j0.eq_2 _ _ _ _ k)
        rw [w1, w2]
        exact Ends.neg (by decide) (Ends.pos h3 (Ends.pos hp (Ends.neg (by omega) (Ends.pure fun k => rfl))))
      · have hl1 : (1 : Int) ≤ (b.length : Int) := by omega
        obtain ⟨i0, i1⟩ := tmod_range hp hl1
        have w3 : wrap64 (p * 7) = p * 7 := w64 (by omega) (by omega)
        have w4 : wrap64 (p * 7 + 3) = p * 7 + 3 := w64 (by omega) (by omega)
        obtain ⟨j0, j1⟩ := tmod_range (show 0 ≤ p * 7 + 3 by omega) hl1
        obtain ⟨r0, r1⟩ := hb.at_ (Int.tmod p (b.length : Int))
        obtain ⟨s0, s1⟩ := hb.at_ (Int.tmod (p * 7 + 3) (b.length : Int))
        generalize hR : rd b (Int.tmod p (b.length : Int)) = R at *
        generalize hS : rd b (Int.tmod (p * 7 + 3) (b.length : Int)) = S at *
        have d0 : 0 ≤ Int.tdiv p (b.length : Int) ∧ Int.tdiv p (b.length : Int) ≤ p := by
          rw [Int.tdiv_eq_ediv_of_nonneg hp]
          exact ⟨Int.ediv_nonneg hp (by omega), Int.ediv_le_self _ hp⟩
        generalize hD : Int.tdiv p (b.length : Int) = D at *
        have X1 : wrap64 R = R := w64 (by omega) (by omega)
        have X2 : wrap64 S = S := w64 (by omega) (by omega)
        have X3 : wrap64 D = D := w64 (by omega) (by omega)
        have X4 : wrap64 (R * 131) = R * 131 := w64 (by omega) (by omega)
        have X5 : wrap64 (S * 1117) = S * 1117 := w64 (by omega) (by omega)
        have X6 : wrap64 (p * 29) = p * 29 := w64 (by omega) (by omega)
        have X7 : wrap64 (D * 53) = D * 53 := w64 (by omega) (by omega)
        have X8 : wrap64 (R * 131 + S * 1117) = R * 131 + S * 1117 := w64 (by omega) (by omega)
        have X9 : wrap64 (R * 131 + S * 1117 + p * 29) = R * 131 + S * 1117 + p * 29 := w64 (by omega) (by omega)
        have X10 : wrap64 (R * 131 + S * 1117 + p * 29 + D * 53) = R * 131 + S * 1117 + p * 29 + D * 53 := w64 (by omega) (by omega)
        have X11 : Int.tdiv (R * 131 + S * 1117 + p * 29 + D * 53) 64 = (R * 131 + S * 1117 + p * 29 + D * 53) / 64 := Int.tdiv_eq_ediv_of_nonneg (by omega)
        have X12 : wrap64 ((R * 131 + S * 1117 + p * 29 + D * 53) / 64) = (R * 131 + S * 1117 + p * 29 + D * 53) / 64 := w64 (by omega) (by omega)
        have hx := xor_nonneg (x := R * 131 + S * 1117 + p * 29 + D * 53) (y := (R * 131 + S * 1117 + p * 29 + D * 53) / 64) (by omega) (by omega) (by omega) (by omega)
        obtain ⟨t0, t1⟩ := tmod_range hx (show 1 ≤ n by omega)
        refine ⟨_, Ends.neg h1 ?_, t0, fun _ => t1, by omega⟩
        refine Ends.succ ?_ (fun k => spec_l1Rd_pick.j0.eq_2 _ _ _ _ k)
        rw [w1, w3, w4, hR, hS, hD, X1, X2, X3, X4, X5, X6, X7, X8, X9, X10, X11, X12]
        exact Ends.neg (by decide) (Ends.neg h3 (Ends.neg h2 (Ends.pos i0 (Ends.pos i1 (Ends.pos j0 (Ends.pos j1 (Ends.neg (by omega) (Ends.pure fun k => rfl))))))))
theorem of_ends {b : List Int} (hb : Bytes b) {p : Int} (hp : 0 ≤ p) (hp2 : p < 1000000000) (l : List ByteArray) (hl : 1 ≤ l.length) (hl2 : l.length < 1000) :
    ∃ s, Ends (fun k => spec_l1Rd_of.f k b p l) (s, p + 1) ∧ s ∈ l := by
  obtain ⟨v, h1, h2, h3, _⟩ := pick_ends hb (n := (l.length : Int)) hp hp2 (by omega)
  have h4 := h3 (by omega)
  have hlt : v.toNat < l.length := by omega
  refine ⟨l[v.toNat], Ends.bind h1 (Ends.pos h2 (Ends.pos h4 (Ends.pure fun k => ?_))), List.getElem_mem hlt⟩
  simp [rdOf, hlt]
/-- 'l1Many': n times a text. -/
theorem many_ends : ∀ (d n : Nat) (s out : ByteArray), n < 2 ^ d → d ≤ 20 → out.size + n * s.size ≤ 1000000000000 → s.size * 2 ^ d ≤ 1000000000000 →
    ∃ r, Ends (fun k => spec_l1Many.l0 k s (n : Int) out) r ∧ r.size = out.size + n * s.size
  | 0, n, s, out, hn, hd, h1, h2 => by
    obtain rfl : n = 0 := by simp at hn; exact hn
    refine ⟨out, Ends.succ ?_ (fun k => spec_l1Many.l0.eq_2 _ _ _ k), by simp⟩
    exact Ends.neg (by decide) (Ends.pure fun k => rfl)
  | d + 1, n, s, out, hn, hd, h1, h2 => by
    by_cases h0 : n = 0
    · subst h0
      refine ⟨out, Ends.succ ?_ (fun k => spec_l1Many.l0.eq_2 _ _ _ k), by simp⟩
      exact Ends.neg (by decide) (Ends.pure fun k => rfl)
    · have e1 : Int.tmod (n : Int) 2 = ((n % 2 : Nat) : Int) := by rw [Int.tmod_eq_emod_of_nonneg (by omega)]; omega
      have hp : 2 ^ (d + 1) ≤ 2 ^ 20 := Nat.pow_le_pow_right (by decide) hd
      have e2 : wrap64 (Int.tdiv (n : Int) 2) = ((n / 2 : Nat) : Int) := by rw [Int.tdiv_eq_ediv_of_nonneg (by omega), w64 (by omega) (by omega)]; omega
      have hp2 : 2 ^ (d + 1) = 2 ^ d * 2 := Nat.pow_succ 2 d
      have hss : (s ++ s).size = s.size + s.size := ByteArray.size_append
      have hsz : (s ++ s).size * 2 ^ d ≤ 1000000000000 := by
        rw [hss, ← Nat.mul_two, Nat.mul_assoc, Nat.mul_comm 2]
        rw [hp2] at h2
        exact h2
      have hs1 : s.size ≤ 1000000000000 := Nat.le_trans (Nat.le_mul_of_pos_right _ (Nat.pow_pos (by decide))) h2
      have hdiv : n = 2 * (n / 2) + n % 2 := by omega
      have hmul : n * s.size = (n / 2) * (s.size + s.size) + (n % 2) * s.size := by
        conv => lhs; rw [hdiv]
        rw [Nat.add_mul, ← Nat.mul_two, Nat.mul_comm 2 (n / 2), Nat.mul_assoc, Nat.mul_comm 2 s.size]
      have step : ∀ o2 : ByteArray, o2.size = out.size + (n % 2) * s.size → ∃ r, Ends (fun k => spec_l1Many.j1 k s (n : Int) o2) r ∧ r.size = out.size + n * s.size := by
        intro o2 ho2
        obtain ⟨r, h3, h4⟩ := many_ends d (n / 2) (s ++ s) o2 (by omega) (by omega) (by rw [hss]; omega) hsz
        refine ⟨r, Ends.succ ?_ (fun k => spec_l1Many.j1.eq_2 _ _ _ k), by rw [h4, hss]; omega⟩
        refine Ends.pos (by omega) ?_
        rw [e2]
        exact h3
      rcases Nat.mod_two_eq_zero_or_one n with hm | hm
      · obtain ⟨r, h3, h4⟩ := step out (by rw [hm]; simp)
        refine ⟨r, Ends.succ ?_ (fun k => spec_l1Many.l0.eq_2 _ _ _ k), h4⟩
        exact Ends.pos (by omega) (Ends.neg (by rw [e1, hm]; decide) h3)
      · have hos : (out ++ s).size = out.size + s.size := ByteArray.size_append
        obtain ⟨r, h3, h4⟩ := step (out ++ s) (by rw [hos, hm]; omega)
        have hle : n * s.size ≥ s.size := Nat.le_mul_of_pos_left _ (by omega)
        refine ⟨r, Ends.succ ?_ (fun k => spec_l1Many.l0.eq_2 _ _ _ k), h4⟩
        exact Ends.pos (by omega) (Ends.pos (by rw [e1, hm]; rfl) (Ends.pos (by omega) h3))
theorem many_f (s : ByteArray) (hs : s.size = 1) (n : Nat) (hn : n < 1000000) : ∃ r, Ends (fun k => spec_l1Many.f k s (n : Int)) r ∧ r.size = n := by
  obtain ⟨r, h1, h2⟩ := many_ends 20 n s (⟨#[]⟩ : ByteArray) (by omega) (by omega) (by rw [hs, show (⟨#[]⟩ : ByteArray).size = 0 from rfl]; omega) (by rw [hs]; decide)
  exact ⟨r, h1, by rw [h2, hs, show (⟨#[]⟩ : ByteArray).size = 0 from rfl]; omega⟩
/-- The argument's bytes. -/
theorem open_bytes {l0 : List Int} (h : ∀ x ∈ l0, (Lit.int .u8 x).wf = true) : ∃ b, Bytes b ∧ spec_l1Open.f l0 = some (b, 0) := by
  have h' : ∀ x ∈ l0, 0 ≤ x ∧ x ≤ 255 := fun x hx => by
    have := h x hx
    simpa [Lit.wf, IntKind.min, IntKind.max, IntKind.signed, IntKind.bits] using this
  unfold spec_l1Open.f
  by_cases hl : (l0.length : Int) > 2000
  · rw [if_pos hl, if_pos (by omega)]
    exact ⟨l0.take 2000, ⟨fun x hx => h' x (List.mem_of_mem_take hx), by simp; omega⟩, rfl⟩
  · rw [if_neg hl]
    exact ⟨l0, ⟨h', by omega⟩, rfl⟩
theorem Ends.uniq {α : Type} {g : Nat → Option α} {a b : α} (h1 : Ends g a) (h2 : Ends g b) : a = b := by
  obtain ⟨K1, h1⟩ := h1
  obtain ⟨K2, h2⟩ := h2
  have := (h1 (max K1 K2) (by omega)).symm.trans (h2 (max K1 K2) (by omega))
  injection this
end Go.Proofs.YtoohbmoljdfbjaaDoor.P
