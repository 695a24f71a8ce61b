/- The plain law of the reference's SHA-256: what its functions compute is ShaDef's 'shaB'. -/
import Derived.Test.YtagdiodhdnebaaaDoorPx3
import Derived.Test.YtagdiodhdnebaaaDoorShaW
set_option linter.unusedVariables false
set_option linter.unusedSimpArgs false
namespace Go.Proofs.YtagdiodhdnebaaaDoor.P
open Go.RowKit Go.Proofs.YtagdiodhdnebaaaDoorW.PrintWords Go.Proofs.YtagdiodhdnebaaaDoorW.PrintMore
theorem w64 {x : Int} (h0 : -9223372036854775808 ≤ x) (h1 : x ≤ 9223372036854775807) : wrap64 x = x := by unfold wrap64; omega
theorem turn_f (x n : Int) (h0 : 0 ≤ n) (h1 : n ≤ 32) : spec_l1Turn.f x n = some (turn x n) := by
  unfold spec_l1Turn.f
  rw [if_pos h0, w64 (by omega) (by omega), if_pos (by omega)]
  rfl
theorem words_lo (b : List Int) (hb : b.length = 64) (m : Nat) : ∀ (d K : Nat), K + d = 16 → spec_l1Words.l0 (m + 1 + d) b (wordsTo b K) (K : Int) = spec_l1Words.l1 m (wordsTo b 16) 16
  | 0, K, h => by
    obtain rfl : K = 16 := by omega
    show spec_l1Words.l0 (m + 1) b (wordsTo b 16) ((16 : Nat) : Int) = _
    simp only [spec_l1Words.l0]
    rw [if_neg (by decide)]
  | d + 1, K, h => by
    have hl := wordsTo_len b K
    rw [show m + 1 + (d + 1) = (m + 1 + d) + 1 from rfl]
    simp only [spec_l1Words.l0]
    rw [if_pos (by omega), w64 (x := 4 * (K : Int)) (by omega) (by omega), if_pos (by omega), if_pos (by omega), w64 (x := 4 * (K : Int) + 1) (by omega) (by omega), if_pos (by omega), if_pos (by omega), w64 (x := 4 * (K : Int) + 2) (by omega) (by omega), if_pos (by omega), if_pos (by omega), w64 (x := 4 * (K : Int) + 3) (by omega) (by omega), if_pos (by omega), if_pos (by omega), if_pos (by omega), w64 (x := (K : Int) + 1) (by omega) (by omega)]
    have e := words_lo b hb m d (K + 1) (by omega)
    rw [← e]
    have e2 : wordsTo b (K + 1) = wordsTo b K ++ [wordAt b K] := by simp [wordsTo, show K < 16 by omega]
    rw [e2]
    simp only [wordAt, rd, show ((4 * (K : Int)).toNat) = 4 * K by omega, show ((4 * (K : Int) + 1).toNat) = 4 * K + 1 by omega, show ((4 * (K : Int) + 2).toNat) = 4 * K + 2 by omega, show ((4 * (K : Int) + 3).toNat) = 4 * K + 3 by omega]
    rfl
theorem words_hi (b : List Int) (m : Nat) : ∀ (d K : Nat), 16 ≤ K → K + d = 64 → spec_l1Words.l1 (m + 1 + d) (wordsTo b K) (K : Int) = some (wordsTo b 64)
  | 0, K, h, h2 => by
    obtain rfl : K = 64 := by omega
    show spec_l1Words.l1 (m + 1) (wordsTo b 64) ((64 : Nat) : Int) = _
    simp only [spec_l1Words.l1]
    rw [if_neg (by decide)]
  | d + 1, K, h, h2 => by
    have hl := wordsTo_len b K
    rw [show m + 1 + (d + 1) = (m + 1 + d) + 1 from rfl]
    simp only [spec_l1Words.l1]
    rw [if_pos (by omega), w64 (x := (K : Int) - 15) (by omega) (by omega), if_pos (by omega), if_pos (by omega), w64 (x := (K : Int) - 2) (by omega) (by omega), if_pos (by omega), if_pos (by omega)]
    simp only [turn_f _ 7 (by decide) (by decide), turn_f _ 18 (by decide) (by decide), turn_f _ 17 (by decide) (by decide), turn_f _ 19 (by decide) (by decide), Option.bind_some]
    rw [w64 (x := (K : Int) - 16) (by omega) (by omega), if_pos (by omega), if_pos (by omega), w64 (x := (K : Int) - 7) (by omega) (by omega), if_pos (by omega), if_pos (by omega), if_pos (by omega), w64 (x := (K : Int) + 1) (by omega) (by omega)]
    have e := words_hi b m d (K + 1) (by omega) (by omega)
    rw [← e]
    have e2 : wordsTo b (K + 1) = wordsTo b K ++ [nextW (wordsTo b K)] := by simp [wordsTo, show ¬ K < 16 by omega]
    rw [e2]
    have e3 : ((((((rd (wordsTo b K) ((K : Int) - 16)) + (Go.bits .xor .u32 (Go.bits .xor .u32 (turn (rd (wordsTo b K) ((K : Int) - 15)) 7) (turn (rd (wordsTo b K) ((K : Int) - 15)) 18)) ((rd (wordsTo b K) ((K : Int) - 15)) / 8))) % 4294967296) + (rd (wordsTo b K) ((K : Int) - 7))) % 4294967296) + (Go.bits .xor .u32 (Go.bits .xor .u32 (turn (rd (wordsTo b K) ((K : Int) - 2)) 17) (turn (rd (wordsTo b K) ((K : Int) - 2)) 19)) ((rd (wordsTo b K) ((K : Int) - 2)) / 1024))) % 4294967296 = nextW (wordsTo b K) := by
      simp only [nextW, sig0, sig1, rd, hl, show ((K : Int) - 16).toNat = K - 16 by omega, show ((K : Int) - 15).toNat = K - 15 by omega, show ((K : Int) - 7).toNat = K - 7 by omega, show ((K : Int) - 2).toNat = K - 2 by omega]
      omega
    rw [e3]
    rfl
theorem words_f (b : List Int) (hb : b.length = 64) (m : Nat) : spec_l1Words.f (m + 66) b = some (wordsTo b 64) := by
  have h1 := words_lo b hb (m + 49) 16 0 rfl
  have h2 := words_hi b m 48 16 (by omega) rfl
  exact h1.trans h2
theorem eight {v : List Int} (h : v.length = 8) : ∃ v0 v1 v2 v3 v4 v5 v6 v7, v = [v0, v1, v2, v3, v4, v5, v6, v7] := by
  match v, h with
  | [v0, v1, v2, v3, v4, v5, v6, v7], _ => exact ⟨v0, v1, v2, v3, v4, v5, v6, v7, rfl⟩
theorem blk_shift (m : Nat) (x0 x5 x6 : List Int) (v0 v1 v2 v3 v4 v5 v6 v7 x8 t a mj : Int) : spec_l1Block.l1 (m + 8) x0 x5 x6 [v0, v1, v2, v3, v4, v5, v6, v7] x8 t a mj 7 =
    spec_l1Block.l0 m x0 x5 x6 [(((t + a) % 4294967296) + mj) % 4294967296, v0, v1, v2, (v3 + t) % 4294967296, v4, v5, v6] (wrap64 (x8 + 1)) := by
  show spec_l1Block.l1 (m + 1 + 1 + 1 + 1 + 1 + 1 + 1 + 1) x0 x5 x6 [v0, v1, v2, v3, v4, v5, v6, v7] x8 t a mj 7 = _
  have w1 : wrap64 6 = 6 := by unfold wrap64; rfl
  have w2 : wrap64 5 = 5 := by unfold wrap64; rfl
  have w3 : wrap64 4 = 4 := by unfold wrap64; rfl
  have w4 : wrap64 3 = 3 := by unfold wrap64; rfl
  have w5 : wrap64 2 = 2 := by unfold wrap64; rfl
  have w6 : wrap64 1 = 1 := by unfold wrap64; rfl
  have w7 : wrap64 0 = 0 := by unfold wrap64; rfl
  simp [spec_l1Block.l1, w1, w2, w3, w4, w5, w6, w7, rd]
theorem blk_round (m : Nat) (x0 ws h : List Int) (hh : h.length = 8) (hw : ws.length = 64) (K : Nat) (hK : K < 64) (hl : (rndTo ws h K).length = 8) :
    spec_l1Block.l0 (m + 9) x0 ws shaTab (rndTo ws h K) (K : Int) = spec_l1Block.l0 m x0 ws shaTab (rndTo ws h (K + 1)) ((K + 1 : Nat) : Int) := by
  have e : rndTo ws h (K + 1) = rnd (rndTo ws h K) (shaTab.getD K 0) (ws.getD K 0) := rfl
  rw [e]
  obtain ⟨v0, v1, v2, v3, v4, v5, v6, v7, hv⟩ := eight hl
  rw [hv]
  have ht : shaTab.length = 64 := rfl
  show spec_l1Block.l0 (m + 8 + 1) x0 ws shaTab [v0, v1, v2, v3, v4, v5, v6, v7] (K : Int) = _
  simp only [spec_l1Block.l0]
  rw [if_pos (by omega), if_pos (by simp)]
  simp only [turn_f _ 6 (by decide) (by decide), turn_f _ 11 (by decide) (by decide), turn_f _ 25 (by decide) (by decide), turn_f _ 2 (by decide) (by decide), turn_f _ 13 (by decide) (by decide), turn_f _ 22 (by decide) (by decide), Option.bind_some]
  rw [if_pos (by simp), if_pos (by simp), if_pos (by simp), if_pos (by omega), if_pos (by omega), if_pos (by omega), if_pos (by simp), if_pos (by simp), if_pos (by simp), blk_shift, w64 (by omega) (by omega)]
  congr 1
  simp only [rnd, oneR, twoR, chB, majB, big0, big1, rd, List.getD_cons_zero, List.getD_cons_succ, List.cons.injEq, and_true, true_and, Int.toNat_natCast, show (0 : Int).toNat = 0 from rfl, show (1 : Int).toNat = 1 from rfl, show (2 : Int).toNat = 2 from rfl, show (4 : Int).toNat = 4 from rfl, show (5 : Int).toNat = 5 from rfl, show (6 : Int).toNat = 6 from rfl, show (7 : Int).toNat = 7 from rfl]
  omega
theorem rnd_len (v : List Int) (c w : Int) : (rnd v c w).length = 8 := rfl
theorem rndTo_len (ws h : List Int) (hh : h.length = 8) : ∀ K, (rndTo ws h K).length = 8
  | 0 => hh
  | K + 1 => rfl
theorem blk_out (m : Nat) (h v : List Int) (hh : h.length = 8) (hv : v.length = 8) : spec_l1Block.l2 (m + 9) h v [] 0 = some (addH h v) := by
  obtain ⟨h0, h1, h2, h3, h4, h5, h6, h7, rfl⟩ := eight hh
  obtain ⟨v0, v1, v2, v3, v4, v5, v6, v7, rfl⟩ := eight hv
  show spec_l1Block.l2 (m + 1 + 1 + 1 + 1 + 1 + 1 + 1 + 1 + 1) _ _ [] 0 = _
  have w0 : wrap64 1 = 1 := by unfold wrap64; rfl
  have w1 : wrap64 2 = 2 := by unfold wrap64; rfl
  have w2 : wrap64 3 = 3 := by unfold wrap64; rfl
  have w3 : wrap64 4 = 4 := by unfold wrap64; rfl
  have w4 : wrap64 5 = 5 := by unfold wrap64; rfl
  have w5 : wrap64 6 = 6 := by unfold wrap64; rfl
  have w6 : wrap64 7 = 7 := by unfold wrap64; rfl
  have w7 : wrap64 8 = 8 := by unfold wrap64; rfl
  have hr : List.range 8 = [0, 1, 2, 3, 4, 5, 6, 7] := rfl
  simp [spec_l1Block.l2, w0, w1, w2, w3, w4, w5, w6, w7, rd, addH, hr]
theorem blk_rounds (m : Nat) (x0 ws h : List Int) (hx : x0.length = 8) (hh : h.length = 8) (hw : ws.length = 64) : ∀ (d K : Nat), K + d = 64 → spec_l1Block.l0 (m + 10 + 9 * d) x0 ws shaTab (rndTo ws h K) (K : Int) = some (addH x0 (rndTo ws h 64))
  | 0, K, e => by
    obtain rfl : K = 64 := by omega
    show spec_l1Block.l0 (m + 9 + 1) x0 ws shaTab (rndTo ws h 64) ((64 : Nat) : Int) = _
    simp only [spec_l1Block.l0]
    rw [if_neg (by decide), blk_out m x0 _ hx (rndTo_len ws h hh 64)]
  | d + 1, K, e => by
    rw [show m + 10 + 9 * (d + 1) = (m + 10 + 9 * d) + 9 by omega, blk_round _ x0 ws h hh hw K (by omega) (rndTo_len ws h hh K)]
    exact blk_rounds m x0 ws h hx hh hw d (K + 1) (by omega)
theorem block_f (h b : List Int) (hh : h.length = 8) (hb : b.length = 64) (m : Nat) : spec_l1Block.f (m + 600) h b = some (blockH h b) := by
  unfold spec_l1Block.f
  rw [words_f b hb (m + 534)]
  simp only [Option.bind_some, spec_l1Consts.f, List.nil_append, List.length_nil]
  rw [if_pos (by omega)]
  exact blk_rounds (m + 14) h (wordsTo b 64) h hh hh (wordsTo_len b 64) 64 0 rfl
theorem blockH_len (h b : List Int) : (blockH h b).length = 8 := by simp [blockH, addH]
theorem sum_out (m : Nat) (h : List Int) (hh : h.length = 8) : spec_l1Sum.l1 (m + 9) h [] 0 = some (strOfNums (h.flatMap bytes4)) := by
  obtain ⟨h0, h1, h2, h3, h4, h5, h6, h7, rfl⟩ := eight hh
  show spec_l1Sum.l1 (m + 1 + 1 + 1 + 1 + 1 + 1 + 1 + 1 + 1) _ [] 0 = _
  have w0 : wrap64 1 = 1 := by unfold wrap64; rfl
  have w1 : wrap64 2 = 2 := by unfold wrap64; rfl
  have w2 : wrap64 3 = 3 := by unfold wrap64; rfl
  have w3 : wrap64 4 = 4 := by unfold wrap64; rfl
  have w4 : wrap64 5 = 5 := by unfold wrap64; rfl
  have w5 : wrap64 6 = 6 := by unfold wrap64; rfl
  have w6 : wrap64 7 = 7 := by unfold wrap64; rfl
  have w7 : wrap64 8 = 8 := by unfold wrap64; rfl
  simp [spec_l1Sum.l1, w0, w1, w2, w3, w4, w5, w6, w7, rd, bytes4]
theorem sum_loop (b : List Int) (m : Nat) : ∀ (d K : Nat) (h : List Int), h.length = 8 → b.length = 64 * (K + d) → 64 * (K + d) < 4611686018427387904 → spec_l1Sum.l0 (m + 610 + d) h b ((64 * K : Nat) : Int) = some (strOfNums ((sumH d h (b.drop (64 * K))).flatMap bytes4))
  | 0, K, h, hh, hb, hm => by
    rw [show m + 610 + 0 = (m + 609) + 1 from rfl, spec_l1Sum.l0.eq_2, if_neg (by omega)]
    exact sum_out (m + 600) h hh
  | d + 1, K, h, hh, hb, hm => by
    rw [show m + 610 + (d + 1) = (m + 610 + d) + 1 from rfl]
    rw [spec_l1Sum.l0.eq_2]
    rw [w64 (x := ((64 * K : Nat) : Int) + 64) (by omega) (by omega), if_pos (by omega), if_pos (by omega), if_pos (by omega), if_pos (by omega)]
    have e1 : ((((64 * K : Nat) : Int) + 64).toNat) = 64 * K + 64 := by omega
    have e2 : (((64 * K : Nat) : Int).toNat) = 64 * K := by omega
    rw [e1, e2]
    have e3 : (b.take (64 * K + 64)).drop (64 * K) = (b.drop (64 * K)).take 64 := by rw [List.drop_take]; congr 1; omega
    rw [e3, show m + 610 + d = (m + 10 + d) + 600 by omega, block_f h _ hh (by simp; omega)]
    simp only [Option.bind_some]
    have := sum_loop b m d (K + 1) (blockH h ((b.drop (64 * K)).take 64)) (blockH_len _ _) (by omega) (by omega)
    rw [show (m + 10 + d) + 600 = m + 610 + d by omega, show ((64 * K : Nat) : Int) + 64 = ((64 * (K + 1) : Nat) : Int) by omega, this]
    simp only [sumH, List.drop_drop]
    rw [show 64 * (K + 1) = 64 * K + 64 by omega]
theorem padB_len (s : ByteArray) : (padB s).length = 64 * ((padB s).length / 64) := by
  have : (padB s).length = s.size + 1 + (119 - s.size % 64) % 64 + 8 := by simp [padB, bytesOf, lenBytes]; omega
  omega
theorem sum_f (s : ByteArray) (hs : s.size ≤ 1099511627776) : ∃ k, spec_l1Sum.f k s = some (shaB s) := by
  have hl := padB_len s
  have hb : (padB s).length ≤ 1099511628000 := by
    have : (padB s).length = s.size + 1 + (119 - s.size % 64) % 64 + 8 := by simp [padB, bytesOf, lenBytes]; omega
    omega
  refine ⟨610 + (padB s).length / 64, ?_⟩
  unfold spec_l1Sum.f spec_l1Padded.f
  rw [if_pos hs]
  have := sum_loop (padB s) 0 ((padB s).length / 64) 0 H0 rfl (by omega) (by omega)
  simpa [shaB, H0] using this
end Go.Proofs.YtagdiodhdnebaaaDoor.P
