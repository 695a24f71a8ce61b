/- Plain law of the log, draws: each function that draws a log, a record, a number comes to an end, within bounds. -/
import Derived.Test.YtagdiodhdnebaaaDoorPAdd
set_option linter.unusedVariables false
set_option linter.unusedSimpArgs false
namespace Go.Proofs.YtagdiodhdnebaaaDoor.P
open Go.RowKit Go.Proofs.YtagdiodhdnebaaaDoorW.PrintWords Go.Proofs.YtagdiodhdnebaaaDoorW.PrintMore
theorem xor_nonneg {x y : Int} (hx : 0 ≤ x) (hx2 : x < 4611686018427387904) (hy : 0 ≤ y) (hy2 : y < 4611686018427387904) : 0 ≤ Go.bits .xor .i64 x y := by
  have hn : (x.toNat ^^^ y.toNat) < 2 ^ 62 := Nat.xor_lt_two_pow (by omega) (by omega)
  have e : (BitVec.ofInt IntKind.i64.bits x ^^^ BitVec.ofInt IntKind.i64.bits y).toNat = x.toNat ^^^ y.toNat := by
    have h1 : (BitVec.ofInt IntKind.i64.bits x).toNat = x.toNat := by
      rw [BitVec.toNat_ofInt]
      have : ((2 ^ IntKind.i64.bits : Nat) : Int) = 18446744073709551616 := by decide
      rw [this]
      omega
    have h2 : (BitVec.ofInt IntKind.i64.bits y).toNat = y.toNat := by
      rw [BitVec.toNat_ofInt]
      have : ((2 ^ IntKind.i64.bits : Nat) : Int) = 18446744073709551616 := by decide
      rw [this]
      omega
    rw [BitVec.toNat_xor, h1, h2]
  show 0 ≤ IntKind.i64.wrap (((BitVec.ofInt IntKind.i64.bits x ^^^ BitVec.ofInt IntKind.i64.bits y).toNat : Nat) : Int)
  rw [e, IntKind.wrap_i64]
  omega
theorem tmod_range {x n : Int} (hx : 0 ≤ x) (hn : 1 ≤ n) : 0 ≤ Int.tmod x n ∧ Int.tmod x n < n := by
  rw [Int.tmod_eq_emod_of_nonneg hx]
  exact ⟨Int.emod_nonneg _ (by omega), Int.emod_lt_of_pos _ (by omega)⟩
/-- The bytes that are drawn from. -/
def Bytes (b : List Int) : Prop := (∀ x ∈ b, 0 ≤ x ∧ x ≤ 255) ∧ b.length ≤ 2000
theorem Bytes.at_ {b : List Int} (h : Bytes b) (i : Int) : 0 ≤ rd b i ∧ rd b i ≤ 255 := by
  unfold rd
  by_cases hi : i.toNat < b.length
  · have : b.getD i.toNat 0 = b[i.toNat] := by simp [hi]
    rw [this]
    exact h.1 _ (List.getElem_mem hi)
  · have : b.getD i.toNat 0 = 0 := by simp [hi]
    rw [this]
    omega
theorem pick_ends {b : List Int} (hb : Bytes b) {p n : Int} (hp : 0 ≤ p) (hp2 : p < 1000000000) (hn : n < 1000000000) :
    ∃ v, Ends (fun k => spec_l1Rd_pick.f k b p n) (v, p + 1) ∧ 0 ≤ v ∧ (1 ≤ n → v < n) ∧ (n < 1 → v = 0) := by
  have hbl := hb.2
  have w0 : wrap64 (p + 1) = p + 1 := w64 (by omega) (by omega)
  have stop : ∀ q : Int, Ends (fun k => spec_l1Rd_pick.j0 k n true b q) (0, q) := fun q => by
    refine Ends.succ ?_ (fun k => spec_l1Rd_pick.j0.eq_2 _ _ _ _ k)
    exact Ends.pos rfl (Ends.pure fun k => rfl)
  unfold spec_l1Rd_pick.f
  rw [w0]
  by_cases h1 : n < 1
  · exact ⟨0, Ends.pos h1 (stop _), by omega, by omega, fun _ => rfl⟩
  · by_cases h2 : (b.length : Int) = 0
    · have e : ((b.length : Int) == 0) = true := by simp [h2]
      rw [e]
      exact ⟨0, Ends.neg h1 (stop _), by omega, by omega, fun _ => rfl⟩
    · have e : ((b.length : Int) == 0) = false := by rw [beq_eq_false_iff_ne]; exact h2
      rw [e]
      have w1 : wrap64 (p + 1 - 1) = p := by rw [w64 (by omega) (by omega)]; omega
      by_cases h3 : p < (b.length : Int)
      · obtain ⟨r0, r1⟩ := hb.at_ p
        have w2 : wrap64 (rd b p) = rd b p := w64 (by omega) (by omega)
        obtain ⟨t0, t1⟩ := tmod_range r0 (show 1 ≤ n by omega)
        refine ⟨Int.tmod (rd b p) n, Ends.neg h1 ?_, t0, fun _ => t1, by omega⟩
        refine Ends.succ ?_ (fun k => spec_l1Rd_pick.j0.eq_2 _ _ _ _ k)
        rw [w1, w2]
        exact Ends.neg (by decide) (Ends.pos h3 (Ends.pos hp (Ends.neg (by omega) (Ends.pure fun k => rfl))))
      · have hl1 : (1 : Int) ≤ (b.length : Int) := by omega
        obtain ⟨i0, i1⟩ := tmod_range hp hl1
        have w3 : wrap64 (p * 7) = p * 7 := w64 (by omega) (by omega)
        have w4 : wrap64 (p * 7 + 3) = p * 7 + 3 := w64 (by omega) (by omega)
        obtain ⟨j0, j1⟩ := tmod_range (show 0 ≤ p * 7 + 3 by omega) hl1
        obtain ⟨r0, r1⟩ := hb.at_ (Int.tmod p (b.length : Int))
        obtain ⟨s0, s1⟩ := hb.at_ (Int.tmod (p * 7 + 3) (b.length : Int))
        generalize hR : rd b (Int.tmod p (b.length : Int)) = R at *
        generalize hS : rd b (Int.tmod (p * 7 + 3) (b.length : Int)) = S at *
        have d0 : 0 ≤ Int.tdiv p (b.length : Int) ∧ Int.tdiv p (b.length : Int) ≤ p := by
          rw [Int.tdiv_eq_ediv_of_nonneg hp]
          exact ⟨Int.ediv_nonneg hp (by omega), Int.ediv_le_self _ hp⟩
        generalize hD : Int.tdiv p (b.length : Int) = D at *
        have X1 : wrap64 R = R := w64 (by omega) (by omega)
        have X2 : wrap64 S = S := w64 (by omega) (by omega)
        have X3 : wrap64 D = D := w64 (by omega) (by omega)
        have X4 : wrap64 (R * 131) = R * 131 := w64 (by omega) (by omega)
        have X5 : wrap64 (S * 1117) = S * 1117 := w64 (by omega) (by omega)
        have X6 : wrap64 (p * 29) = p * 29 := w64 (by omega) (by omega)
        have X7 : wrap64 (D * 53) = D * 53 := w64 (by omega) (by omega)
        have X8 : wrap64 (R * 131 + S * 1117) = R * 131 + S * 1117 := w64 (by omega) (by omega)
        have X9 : wrap64 (R * 131 + S * 1117 + p * 29) = R * 131 + S * 1117 + p * 29 := w64 (by omega) (by omega)
        have X10 : wrap64 (R * 131 + S * 1117 + p * 29 + D * 53) = R * 131 + S * 1117 + p * 29 + D * 53 := w64 (by omega) (by omega)
        have X11 : Int.tdiv (R * 131 + S * 1117 + p * 29 + D * 53) 64 = (R * 131 + S * 1117 + p * 29 + D * 53) / 64 := Int.tdiv_eq_ediv_of_nonneg (by omega)
        have X12 : wrap64 ((R * 131 + S * 1117 + p * 29 + D * 53) / 64) = (R * 131 + S * 1117 + p * 29 + D * 53) / 64 := w64 (by omega) (by omega)
        have hx := xor_nonneg (x := R * 131 + S * 1117 + p * 29 + D * 53) (y := (R * 131 + S * 1117 + p * 29 + D * 53) / 64) (by omega) (by omega) (by omega) (by omega)
        obtain ⟨t0, t1⟩ := tmod_range hx (show 1 ≤ n by omega)
        refine ⟨_, Ends.neg h1 ?_, t0, fun _ => t1, by omega⟩
        refine Ends.succ ?_ (fun k => spec_l1Rd_pick.j0.eq_2 _ _ _ _ k)
        rw [w1, w3, w4, hR, hS, hD, X1, X2, X3, X4, X5, X6, X7, X8, X9, X10, X11, X12]
        exact Ends.neg (by decide) (Ends.neg h3 (Ends.neg h2 (Ends.pos i0 (Ends.pos i1 (Ends.pos j0 (Ends.pos j1 (Ends.neg (by omega) (Ends.pure fun k => rfl))))))))
theorem of_ends {b : List Int} (hb : Bytes b) {p : Int} (hp : 0 ≤ p) (hp2 : p < 1000000000) (l : List ByteArray) (hl : 1 ≤ l.length) (hl2 : l.length < 1000) :
    ∃ s, Ends (fun k => spec_l1Rd_of.f k b p l) (s, p + 1) ∧ s ∈ l := by
  obtain ⟨v, h1, h2, h3, _⟩ := pick_ends hb (n := (l.length : Int)) hp hp2 (by omega)
  have h4 := h3 (by omega)
  have hlt : v.toNat < l.length := by omega
  refine ⟨l[v.toNat], Ends.bind h1 (Ends.pos h2 (Ends.pos h4 (Ends.pure fun k => ?_))), List.getElem_mem hlt⟩
  simp [rdOf, hlt]
/-- 'l1Many': n times a text. -/
theorem many_ends : ∀ (d n : Nat) (s out : ByteArray), n < 2 ^ d → d ≤ 20 → out.size + n * s.size ≤ 1000000000000 → s.size * 2 ^ d ≤ 1000000000000 →
    ∃ r, Ends (fun k => spec_l1Many.l0 k s (n : Int) out) r ∧ r.size = out.size + n * s.size
  | 0, n, s, out, hn, hd, h1, h2 => by
    obtain rfl : n = 0 := by simp at hn; exact hn
    refine ⟨out, Ends.succ ?_ (fun k => spec_l1Many.l0.eq_2 _ _ _ k), by simp⟩
    exact Ends.neg (by decide) (Ends.pure fun k => rfl)
  | d + 1, n, s, out, hn, hd, h1, h2 => by
    by_cases h0 : n = 0
    · subst h0
      refine ⟨out, Ends.succ ?_ (fun k => spec_l1Many.l0.eq_2 _ _ _ k), by simp⟩
      exact Ends.neg (by decide) (Ends.pure fun k => rfl)
    · have e1 : Int.tmod (n : Int) 2 = ((n % 2 : Nat) : Int) := by rw [Int.tmod_eq_emod_of_nonneg (by omega)]; omega
      have hp : 2 ^ (d + 1) ≤ 2 ^ 20 := Nat.pow_le_pow_right (by decide) hd
      have e2 : wrap64 (Int.tdiv (n : Int) 2) = ((n / 2 : Nat) : Int) := by rw [Int.tdiv_eq_ediv_of_nonneg (by omega), w64 (by omega) (by omega)]; omega
      have hp2 : 2 ^ (d + 1) = 2 ^ d * 2 := Nat.pow_succ 2 d
      have hss : (s ++ s).size = s.size + s.size := ByteArray.size_append
      have hsz : (s ++ s).size * 2 ^ d ≤ 1000000000000 := by
        rw [hss, ← Nat.mul_two, Nat.mul_assoc, Nat.mul_comm 2]
        rw [hp2] at h2
        exact h2
      have hs1 : s.size ≤ 1000000000000 := Nat.le_trans (Nat.le_mul_of_pos_right _ (Nat.pow_pos (by decide))) h2
      have hdiv : n = 2 * (n / 2) + n % 2 := by omega
      have hmul : n * s.size = (n / 2) * (s.size + s.size) + (n % 2) * s.size := by
        conv => lhs; rw [hdiv]
        rw [Nat.add_mul, ← Nat.mul_two, Nat.mul_comm 2 (n / 2), Nat.mul_assoc, Nat.mul_comm 2 s.size]
      have step : ∀ o2 : ByteArray, o2.size = out.size + (n % 2) * s.size → ∃ r, Ends (fun k => spec_l1Many.j1 k s (n : Int) o2) r ∧ r.size = out.size + n * s.size := by
        intro o2 ho2
        obtain ⟨r, h3, h4⟩ := many_ends d (n / 2) (s ++ s) o2 (by omega) (by omega) (by rw [hss]; omega) hsz
        refine ⟨r, Ends.succ ?_ (fun k => spec_l1Many.j1.eq_2 _ _ _ k), by rw [h4, hss]; omega⟩
        refine Ends.pos (by omega) ?_
        rw [e2]
        exact h3
      rcases Nat.mod_two_eq_zero_or_one n with hm | hm
      · obtain ⟨r, h3, h4⟩ := step out (by rw [hm]; simp)
        refine ⟨r, Ends.succ ?_ (fun k => spec_l1Many.l0.eq_2 _ _ _ k), h4⟩
        exact Ends.pos (by omega) (Ends.neg (by rw [e1, hm]; decide) h3)
      · have hos : (out ++ s).size = out.size + s.size := ByteArray.size_append
        obtain ⟨r, h3, h4⟩ := step (out ++ s) (by rw [hos, hm]; omega)
        have hle : n * s.size ≥ s.size := Nat.le_mul_of_pos_left _ (by omega)
        refine ⟨r, Ends.succ ?_ (fun k => spec_l1Many.l0.eq_2 _ _ _ k), h4⟩
        exact Ends.pos (by omega) (Ends.pos (by rw [e1, hm]; rfl) (Ends.pos (by omega) h3))
theorem many_f (s : ByteArray) (hs : s.size = 1) (n : Nat) (hn : n < 1000000) : ∃ r, Ends (fun k => spec_l1Many.f k s (n : Int)) r ∧ r.size = n := by
  obtain ⟨r, h1, h2⟩ := many_ends 20 n s (⟨#[]⟩ : ByteArray) (by omega) (by omega) (by rw [hs, show (⟨#[]⟩ : ByteArray).size = 0 from rfl]; omega) (by rw [hs]; decide)
  exact ⟨r, h1, by rw [h2, hs, show (⟨#[]⟩ : ByteArray).size = 0 from rfl]; omega⟩
theorem record_ends {b : List Int} (hb : Bytes b) {p : Int} (hp : 0 ≤ p) (hp2 : p < 1000000000) : ∃ s : ByteArray, Ends (fun k => spec_l15Record.f k b p) (s, p + 1) ∧ s.size ≤ 1000 := by
  obtain ⟨r1, h1, s1⟩ := many_f (⟨#[114]⟩ : ByteArray) rfl 500 (by decide)
  obtain ⟨r2, h2, s2⟩ := many_f (⟨#[114]⟩ : ByteArray) rfl 501 (by decide)
  obtain ⟨s, h3, h4⟩ := of_ends hb hp hp2 [(⟨#[120]⟩ : ByteArray), (⟨#[97, 32, 114, 101, 99, 111, 114, 100]⟩ : ByteArray), (⟨#[48, 32, 97, 58, 116, 101, 120, 116]⟩ : ByteArray), (⟨#[49, 32, 98, 58]⟩ : ByteArray), (⟨#[10]⟩ : ByteArray), r1, r2, (⟨#[]⟩ : ByteArray)] (by simp) (by simp)
  refine ⟨s, Ends.bind h1 (Ends.bind h2 (Ends.bind h3 (Ends.pure fun k => rfl))), ?_⟩
  simp only [List.mem_cons, List.not_mem_nil, or_false] at h4
  rcases h4 with rfl | rfl | rfl | rfl | rfl | rfl | rfl | rfl
  · decide
  · decide
  · decide
  · decide
  · decide
  · omega
  · omega
  · decide
theorem log_loop {b : List Int} (hb : Bytes b) : ∀ (d : Nat) (s : ByteArray) (p : Int), s.size ≤ 9000 → 0 ≤ p → p + d < 1000000000 →
    ∃ (r : ByteArray) (q : Int), Ends (fun k => spec_l15Log.l0 k s (d : Int) b p) (r, q) ∧ r.size ≤ 9000 ∧ 0 ≤ q ∧ q ≤ p + d
  | 0, s, p, hs, hp, hp2 => by
    refine ⟨s, p, Ends.succ ?_ (fun k => spec_l15Log.l0.eq_2 _ _ _ _ k), hs, hp, by omega⟩
    exact Ends.neg (by decide) (Ends.pure fun k => rfl)
  | d + 1, s, p, hs, hp, hp2 => by
    obtain ⟨t, h1, ht⟩ := record_ends hb hp (by omega)
    obtain ⟨x, ok, h2, _, h3, h3'⟩ := add_both s t (by omega)
    have w : wrap64 (((d + 1 : Nat) : Int) - 1) = (d : Int) := by rw [w64 (by omega) (by omega)]; omega
    cases ok with
    | true =>
      obtain ⟨y, hy, _, hx, _⟩ := h3 rfl
      obtain ⟨r, q, h4, h5, h6, h7⟩ := log_loop hb d x (p + 1) hx (by omega) (by omega)
      refine ⟨r, q, Ends.succ ?_ (fun k => spec_l15Log.l0.eq_2 _ _ _ _ k), h5, h6, by omega⟩
      refine Ends.pos (by omega) (Ends.bind h1 (Ends.bind h2 (Ends.pos rfl ?_)))
      rw [w]
      exact h4
    | false =>
      obtain ⟨r, q, h4, h5, h6, h7⟩ := log_loop hb d s (p + 1) hs (by omega) (by omega)
      refine ⟨r, q, Ends.succ ?_ (fun k => spec_l15Log.l0.eq_2 _ _ _ _ k), h5, h6, by omega⟩
      refine Ends.pos (by omega) (Ends.bind h1 (Ends.bind h2 (Ends.neg (by simp) ?_)))
      rw [w]
      exact h4
theorem log_ends {b : List Int} (hb : Bytes b) {p : Int} (hp : 0 ≤ p) (hp2 : p < 100000000) : ∃ (r : ByteArray) (q : Int), Ends (fun k => spec_l15Log.f k b p) (r, q) ∧ r.size ≤ 9000 ∧ 0 ≤ q ∧ q ≤ p + 7 := by
  obtain ⟨v, h1, h2, h3, _⟩ := pick_ends hb (n := 6) hp (by omega) (by decide)
  have h4 := h3 (by decide)
  obtain ⟨d, rfl⟩ := Int.eq_ofNat_of_zero_le h2
  obtain ⟨r, q, h5, h6, h7, h8⟩ := log_loop hb d (⟨#[]⟩ : ByteArray) (p + 1) (by decide) (by omega) (by omega)
  exact ⟨r, q, Ends.bind h1 h5, h6, h7, by omega⟩
theorem spoil_size (s : ByteArray) (n : Int) : (strOfNums (spoilL s n)).size = s.size := by
  rw [strOfNums_size]
  simp [spoilL, bytesOf]
theorem anyLog_ends {b : List Int} (hb : Bytes b) {p : Int} (hp : 0 ≤ p) (hp2 : p < 10000000) : ∃ (r : ByteArray) (q : Int), Ends (fun k => spec_l15AnyLog.f k b p) (r, q) ∧ r.size ≤ 9000 ∧ 0 ≤ q ∧ q ≤ p + 20 := by
  obtain ⟨s, q0, h1, h2, h3, h4⟩ := log_ends hb hp (by omega)
  obtain ⟨v, h5, h6, h7, _⟩ := pick_ends hb (n := 5) h3 (by omega) (by decide)
  have keep : Ends (fun _ : Nat => some (s, q0 + 1)) (s, q0 + 1) := Ends.pure fun k => rfl
  by_cases hv0 : v = 0
  · obtain ⟨m, h8, h9, h10, _⟩ := pick_ends hb (n := (s.size : Int) + 1) (p := q0 + 1) (by omega) (by omega) (by omega)
    have h11 := h10 (by omega)
    have w : wrap64 ((s.size : Int) + 1) = (s.size : Int) + 1 := w64 (by omega) (by omega)
    refine ⟨s.extract 0 m.toNat, q0 + 1 + 1, Ends.bind h1 (Ends.bind h5 (Ends.pos hv0 ?_)), by rw [ByteArray.size_extract]; omega, by omega, by omega⟩
    simp only [w]
    exact Ends.bind h8 (Ends.pos h9 (Ends.pos (by omega) (Ends.pure fun k => rfl)))
  · by_cases hv1 : v = 1
    · by_cases hs : s.toList = ([] : List UInt8)
      · exact ⟨s, q0 + 1, Ends.bind h1 (Ends.bind h5 (Ends.neg hv0 (Ends.pos hv1 (Ends.pos hs keep)))), h2, by omega, by omega⟩
      · obtain ⟨m1, g1, g2, g3, _⟩ := pick_ends hb (n := 256) (p := q0 + 1) (by omega) (by omega) (by decide)
        obtain ⟨m2, g4, g5, g6, _⟩ := pick_ends hb (n := 256) (p := q0 + 1 + 1) (by omega) (by omega) (by decide)
        have g7 := g3 (by decide)
        have g8 := g6 (by decide)
        have w1 : wrap64 (m1 * 256) = m1 * 256 := w64 (by omega) (by omega)
        have w2 : wrap64 (m1 * 256 + m2) = m1 * 256 + m2 := w64 (by omega) (by omega)
        have hsz : 1 ≤ s.size := by
          rw [ByteArray.toList_eq] at hs
          have : 0 < s.data.toList.length := List.length_pos_iff.2 hs
          rw [Array.length_toList] at this
          exact this
        have hf : spec_l14Spoil.f 0 s false (m1 * 256 + m2) = some (0, strOfNums (spoilL s (m1 * 256 + m2)), true) := by
          unfold spec_l14Spoil.f
          rw [if_pos ⟨hsz, by omega, by omega, by omega⟩]
        refine ⟨strOfNums (spoilL s (m1 * 256 + m2)), q0 + 1 + 1 + 1, Ends.bind h1 (Ends.bind h5 (Ends.neg hv0 (Ends.pos hv1 (Ends.neg hs (Ends.bind g1 (Ends.bind g4 ?_)))))), by rw [spoil_size]; exact h2, by omega, by omega⟩
        simp only [w1, w2, hf, Option.bind_some]
        exact Ends.pure fun k => rfl
    · exact ⟨s, q0 + 1, Ends.bind h1 (Ends.bind h5 (Ends.neg hv0 (Ends.neg hv1 keep))), h2, by omega, by omega⟩
/-- The argument's bytes. -/
theorem open_bytes {l0 : List Int} (h : ∀ x ∈ l0, (Lit.int .u8 x).wf = true) : ∃ b, Bytes b ∧ spec_l1Open.f l0 = some (b, 0) := by
  have h' : ∀ x ∈ l0, 0 ≤ x ∧ x ≤ 255 := fun x hx => by
    have := h x hx
    simpa [Lit.wf, IntKind.min, IntKind.max, IntKind.signed, IntKind.bits] using this
  unfold spec_l1Open.f
  by_cases hl : (l0.length : Int) > 2000
  · rw [if_pos hl, if_pos (by omega)]
    exact ⟨l0.take 2000, ⟨fun x hx => h' x (List.mem_of_mem_take hx), by simp; omega⟩, rfl⟩
  · rw [if_neg hl]
    exact ⟨l0, ⟨h', by omega⟩, rfl⟩
theorem drawRead_ends {l0 : List Int} (h : ∀ x ∈ l0, (Lit.int .u8 x).wf = true) : ∃ r : ByteArray, Ends (fun k => spec_DrawLogRead.f k l0) r ∧ r.size ≤ 9000 := by
  obtain ⟨b, hb, ho⟩ := open_bytes h
  obtain ⟨r, q, h1, h2, _, _⟩ := anyLog_ends hb (p := 0) (by decide) (by decide)
  refine ⟨r, ?_, h2⟩
  unfold spec_DrawLogRead.f
  simp only [ho, Option.bind_some]
  exact Ends.bind h1 (Ends.pure fun k => rfl)
theorem add17 {b : List Int} (hb : Bytes b) (p : Int) (hp : 0 ≤ p) (hp2 : p < 10000000) : ∀ (d i : Nat) (s : ByteArray), i + d = 17 → s.size ≤ 9000 →
    ∃ r : ByteArray × ByteArray, Ends (fun k => spec_DrawLogAdd.l0 k s (i : Int) b p) r ∧ r.1.size ≤ 9000 ∧ r.2.size ≤ 1000
  | 0, i, s, h, hs => by
    obtain ⟨v1, h1, h2, h3, _⟩ := pick_ends hb (n := 256) hp (by omega) (by decide)
    obtain ⟨v2, h4, h5, h6, _⟩ := pick_ends hb (n := 140) (p := p + 1) (by omega) (by omega) (by decide)
    have h7 := h3 (by decide)
    have h8 := h6 (by decide)
    have w : wrap64 (v1 + v2) = ((v1 + v2).toNat : Int) := by rw [w64 (by omega) (by omega)]; omega
    obtain ⟨r, h9, h10⟩ := many_f (⟨#[109]⟩ : ByteArray) rfl (v1 + v2).toNat (by omega)
    refine ⟨(s, r), Ends.succ ?_ (fun k => spec_DrawLogAdd.l0.eq_2 _ _ _ _ k), hs, by show r.size ≤ 1000; omega⟩
    refine Ends.neg (by omega) (Ends.bind h1 (Ends.bind h4 ?_))
    simp only [w]
    exact Ends.bind h9 (Ends.pure fun k => rfl)
  | d + 1, i, s, h, hs => by
    obtain ⟨t, h1, ht⟩ := many_f (⟨#[108]⟩ : ByteArray) rfl 500 (by decide)
    obtain ⟨x, ok, h2, _, h3, h3'⟩ := add_both s t (by omega)
    have hx : x.size ≤ 9000 := by
      cases ok with
      | true => exact (h3 rfl).choose_spec.2.2.1
      | false => rw [h3' rfl]; exact Nat.zero_le _
    obtain ⟨r, h4, h5⟩ := add17 hb p hp hp2 d (i + 1) x (by omega) hx
    refine ⟨r, Ends.succ ?_ (fun k => spec_DrawLogAdd.l0.eq_2 _ _ _ _ k), h5⟩
    refine Ends.pos (by omega) (Ends.bind h1 (Ends.bind h2 ?_))
    rw [w64 (by omega) (by omega), show (i : Int) + 1 = ((i + 1 : Nat) : Int) by omega]
    exact h4
theorem drawAdd_ends {l0 : List Int} (h : ∀ x ∈ l0, (Lit.int .u8 x).wf = true) : ∃ r : ByteArray × ByteArray, Ends (fun k => spec_DrawLogAdd.f k l0) r ∧ r.1.size ≤ 9000 ∧ r.2.size ≤ 1000 := by
  obtain ⟨b, hb, ho⟩ := open_bytes h
  obtain ⟨v, h1, h2, h3, _⟩ := pick_ends hb (p := 0) (n := 16) (by decide) (by decide) (by decide)
  unfold spec_DrawLogAdd.f
  simp only [ho, Option.bind_some]
  by_cases hv : v = 0
  · obtain ⟨r, h4, h5⟩ := add17 hb (0 + 1) (by decide) (by decide) 17 0 (⟨#[]⟩ : ByteArray) rfl (by decide)
    exact ⟨r, Ends.bind h1 (Ends.pos hv h4), h5⟩
  · obtain ⟨s, q, h4, h5, h6, h7⟩ := anyLog_ends hb (p := 0 + 1) (by decide) (by decide)
    obtain ⟨t, h8, h9⟩ := record_ends hb h6 (by omega)
    exact ⟨(s, t), Ends.bind h1 (Ends.neg hv (Ends.bind h4 (Ends.bind h8 (Ends.pure fun k => rfl)))), h5, h9⟩
theorem drawTorn_ends {l0 : List Int} (h : ∀ x ∈ l0, (Lit.int .u8 x).wf = true) : ∃ (s t : ByteArray) (n : Int), Ends (fun k => spec_DrawLogTorn.f k l0) (s, t, n) ∧ s.size ≤ 9000 ∧ t.size ≤ 1000 ∧ -1 ≤ n ∧ n ≤ 9999 := by
  obtain ⟨b, hb, ho⟩ := open_bytes h
  obtain ⟨v, h1, h2, h3, _⟩ := pick_ends hb (p := 0) (n := 60) (by decide) (by decide) (by decide)
  obtain ⟨m, h4, h5, h6, _⟩ := pick_ends hb (p := 0 + 1) (n := 4) (by decide) (by decide) (by decide)
  obtain ⟨r, h7, h8, h9⟩ := drawAdd_ends h
  have hv := h3 (by decide)
  have hm := h6 (by decide)
  have hrd : -1 ≤ rd [v, 9999, 0, -1] m ∧ rd [v, 9999, 0, -1] m ≤ 9999 := by
    have : m = 0 ∨ m = 1 ∨ m = 2 ∨ m = 3 := by omega
    rcases this with rfl | rfl | rfl | rfl
    · show -1 ≤ v ∧ v ≤ 9999; omega
    · show (-1 : Int) ≤ 9999 ∧ (9999 : Int) ≤ 9999; omega
    · show (-1 : Int) ≤ 0 ∧ (0 : Int) ≤ 9999; omega
    · show (-1 : Int) ≤ -1 ∧ (-1 : Int) ≤ 9999; omega
  refine ⟨r.1, r.2, rd [v, 9999, 0, -1] m, ?_, h8, h9, hrd⟩
  unfold spec_DrawLogTorn.f
  simp only [ho, Option.bind_some]
  refine Ends.bind h1 (Ends.bind h4 (Ends.pos h5 (Ends.pos (by show m < ((4 : Nat) : Int); omega) (Ends.bind h7 (Ends.pure fun k => rfl)))))
end Go.Proofs.YtagdiodhdnebaaaDoor.P
