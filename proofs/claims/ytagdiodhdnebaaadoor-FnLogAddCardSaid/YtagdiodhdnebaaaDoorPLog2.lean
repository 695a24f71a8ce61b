/- Plain law of the log, second part: sums in hexadecimals, a record's line, places of a byte, numbers. -/
import Derived.Test.YtagdiodhdnebaaaDoorPLog1
set_option linter.unusedVariables false
set_option linter.unusedSimpArgs false
namespace Go.Proofs.YtagdiodhdnebaaaDoor.P
open Go.RowKit Go.Proofs.YtagdiodhdnebaaaDoorW.PrintWords Go.Proofs.YtagdiodhdnebaaaDoorW.PrintMore
/-! ### hexadecimals, sums -/
def hx2 (b : Int) : List Int := [bt (⟨#[48, 49, 50, 51, 52, 53, 54, 55, 56, 57, 97, 98, 99, 100, 101, 102]⟩ : ByteArray) ((Int.tdiv b 16) % 256), bt (⟨#[48, 49, 50, 51, 52, 53, 54, 55, 56, 57, 97, 98, 99, 100, 101, 102]⟩ : ByteArray) (Int.tmod b 16)]
def hexB (x : ByteArray) : ByteArray := strOfNums ((List.range' 0 x.size).flatMap fun (i : Nat) => hx2 (bt x (i : Int)))
theorem hex_loop (x : ByteArray) (m : Nat) : ∀ (d K : Nat) (y : List Int), K + d = x.size → y.length + 2 * d < 140737488355328 → x.size < 140737488355328 →
    spec_l1Hex.l0 (m + 1 + d) x y (K : Int) = some (strOfNums (y ++ (List.range' K d).flatMap fun (i : Nat) => hx2 (bt x (i : Int))))
  | 0, K, y, h, hy, hx => by
    rw [show m + 1 + 0 = m + 1 from rfl, spec_l1Hex.l0.eq_2, if_neg (by omega)]
    simp
  | d + 1, K, y, h, hy, hx => by
    have hb := bt_range x (K : Int)
    have e1 : Int.tdiv (bt x (K : Int)) 16 % 256 = bt x (K : Int) / 16 := by rw [Int.tdiv_eq_ediv_of_nonneg hb.1]; omega
    have e2 : Int.tmod (bt x (K : Int)) 16 = bt x (K : Int) % 16 := Int.tmod_eq_emod_of_nonneg hb.1
    rw [show m + 1 + (d + 1) = (m + 1 + d) + 1 from rfl, spec_l1Hex.l0.eq_2, if_pos (by omega), if_pos (by omega), if_pos (by rw [e1]; omega), if_pos (by rw [e1]; omega), if_pos (by rw [e2]; omega), if_pos (by rw [e2]; omega), Option.bind_some]
    rw [if_pos (by (try simp only [List.length_append, List.length_singleton, List.length_nil, List.length_cons, hx2]); omega), w64 (by omega) (by omega)]
    have := hex_loop x m d (K + 1) (y ++ hx2 (bt x (K : Int))) (by omega) (by simp [hx2]; omega) hx
    rw [show ((K : Int) + 1) = ((K + 1 : Nat) : Int) by omega]
    refine this.trans ?_
    rw [List.range'_succ, List.flatMap_cons, List.append_assoc]
theorem hex_f (x : ByteArray) (h : x.size < 1000) : Ends (fun k => spec_l1Hex.f k x) (hexB x) := by
  refine Ends.of (spec_l1Hex.mono x) (k := 0 + 1 + x.size) ?_
  exact hex_loop x 0 x.size 0 [] (by omega) (by (try simp only [List.length_append, List.length_singleton, List.length_nil, List.length_cons, hx2]); omega) (by omega)
theorem hexOf_eq : ∀ (k : Nat) (x : ByteArray) (y : List Int) (i : Int), impl_hexOf.l0 k x y i = spec_l1Hex.l0 k x y i
  | 0, x, y, i => by rw [impl_hexOf.l0.eq_1, spec_l1Hex.l0.eq_1]
  | k + 1, x, y, i => by
    rw [impl_hexOf.l0.eq_2, spec_l1Hex.l0.eq_2]
    simp only [hexOf_eq k]
theorem hexOf_f (x : ByteArray) (h : x.size < 1000) : Ends (fun k => impl_hexOf.f k x) (hexB x) := (hex_f x h).congr fun k => hexOf_eq k x [] 0
theorem hexB_size (x : ByteArray) : (hexB x).size = 2 * x.size := by
  unfold hexB
  rw [strOfNums_size]
  have : ∀ (l : List Nat), (l.flatMap fun (i : Nat) => hx2 (bt x (i : Int))).length = 2 * l.length := by
    intro l
    induction l with
    | nil => rfl
    | cons a l ih => rw [List.flatMap_cons, List.length_append, ih]; simp [hx2]; omega
  rw [this]
  simp
theorem sumH_len : ∀ (n : Nat) (h b : List Int), h.length = 8 → (sumH n h b).length = 8
  | 0, h, b, hh => hh
  | n + 1, h, b, hh => sumH_len n _ _ (blockH_len _ _)
theorem shaB_size (s : ByteArray) : (shaB s).size = 32 := by
  unfold shaB
  rw [strOfNums_size]
  obtain ⟨v0, v1, v2, v3, v4, v5, v6, v7, hv⟩ := eight (sumH_len ((padB s).length / 64) H0 (padB s) rfl)
  rw [hv]
  rfl
theorem hash_spec (s : ByteArray) (hs : s.size ≤ 1099511627776) : Ends (fun k => spec_HashSum.f k s) (hexB (shaB s)) := by
  obtain ⟨k, hk⟩ := sum_f s hs
  have h1 : Ends (fun k => spec_l1Sum.f k s) (shaB s) := Ends.of (spec_l1Sum.mono s) hk
  exact Ends.bind h1 (Ends.bind (hex_f _ (by rw [shaB_size]; decide)) (Ends.pure fun _ => rfl))
theorem hash_impl (s : ByteArray) (hs : s.size ≤ 1099511627776) : Ends (fun k => impl_HashSum.f k s) (hexB (shaB s)) := by
  have h1 : Ends (fun _ : Nat => impl_sha256Of.f s) (shaB s) := Ends.pure fun k => by unfold impl_sha256Of.f; exact if_pos hs
  exact Ends.bind h1 (Ends.bind (hexOf_f _ (by rw [shaB_size]; decide)) (Ends.pure fun _ => rfl))
/-! ### a record's line -/
def hx (l : List UInt8) : List UInt8 := (hexB (shaB (B l))).data.toList.take 16
theorem hx_len (l : List UInt8) : (hx l).length = 16 := by
  have : (hexB (shaB (B l))).data.toList.length = 64 := by
    have := hexB_size (shaB (B l))
    rw [shaB_size] at this
    rw [Array.length_toList]
    exact this
  unfold hx
  rw [List.length_take, this]
  rfl
def headL (num : Nat) (n : Nat) : List UInt8 := dec num ++ [32] ++ dec n ++ [32]
def lineL (num : Nat) (rec : List UInt8) : List UInt8 := headL num rec.length ++ hx (headL num rec.length ++ rec) ++ [32] ++ rec ++ [10]
theorem headL_len (num n : Nat) : (headL num n).length = (dec num).length + 1 + (dec n).length + 1 := by simp only [headL, List.length_append, List.length_singleton]
theorem lineL_len (num : Nat) (rec : List UInt8) : (lineL num rec).length = (dec num).length + 1 + (dec rec.length).length + 18 + rec.length + 1 := by
  simp only [lineL, List.length_append, headL_len, hx_len, List.length_singleton]
theorem line_spec (num : Nat) (rec : List UInt8) (hn : num < 4611686018427387904) (hr : rec.length ≤ 549755813888) : Ends (fun k => spec_l8Line.f k (num : Int) (B rec)) (B (lineL num rec)) := by
  have l1 := dec_len num 18 (by omega)
  have l2 := dec_len rec.length 18 (by omega)
  have hsp : (⟨#[32]⟩ : ByteArray) = B [32] := rfl
  have hnl : (⟨#[10]⟩ : ByteArray) = B [10] := rfl
  have hsz : (hexB (shaB (B (headL num rec.length ++ rec)))).size = 64 := by rw [hexB_size, shaB_size]
  unfold spec_l8Line.f
  rw [hsp, hnl]
  simp only [B_size]
  refine Ends.bind (l1Dec_ends num (by omega)) ?_
  refine Ends.pos (by rw [B_size]; omega) ?_
  refine Ends.bind (l1Dec_ends rec.length (by omega)) ?_
  simp only [B_app, B_size]
  refine Ends.pos (by (try simp only [List.length_append, List.length_singleton, List.length_nil, List.length_cons, hx2]); omega) (Ends.pos (by (try simp only [List.length_append, List.length_singleton, List.length_nil, List.length_cons, hx2]); omega) (Ends.pos (by (try simp only [List.length_append, List.length_singleton, List.length_nil, List.length_cons, hx2]); omega) ?_))
  rw [show dec num ++ [32] ++ dec rec.length ++ [32] = headL num rec.length from rfl]
  refine Ends.bind (hash_spec _ (by rw [B_size, List.length_append, headL_len]; omega)) ?_
  refine Ends.pos (by decide) (Ends.pos (by rw [hsz]; decide) ?_)
  have e : (hexB (shaB (B (headL num rec.length ++ rec)))).extract 0 16 = B (hx (headL num rec.length ++ rec)) := by
    conv => lhs; rw [B_of (hexB (shaB (B (headL num rec.length ++ rec))))]
    rw [B_ext]
    rfl
  have h3 := headL_len num rec.length
  have h4 := hx_len (headL num rec.length ++ rec)
  simp only [e, B_app, B_size]
  refine Ends.pos (by (try simp only [List.length_append, List.length_singleton, List.length_nil, List.length_cons, hx2]); omega) (Ends.pos (by (try simp only [List.length_append, List.length_singleton, List.length_nil, List.length_cons, hx2]); omega) (Ends.pos (by (try simp only [List.length_append, List.length_singleton, List.length_nil, List.length_cons, hx2]); omega) (Ends.pos (by (try simp only [List.length_append, List.length_singleton, List.length_nil, List.length_cons, hx2]); omega) (Ends.pure fun k => rfl))))
theorem line_impl (num : Nat) (rec : List UInt8) (hn : num < 4611686018427387904) (hr : rec.length ≤ 549755813888) : Ends (fun k => impl_logLine.f k (num : Int) (B rec)) (B (lineL num rec)) := by
  have l1 := dec_len num 18 (by omega)
  have l2 := dec_len rec.length 18 (by omega)
  have hsp : (⟨#[32]⟩ : ByteArray) = B [32] := rfl
  have hnl : (⟨#[10]⟩ : ByteArray) = B [10] := rfl
  have hsz : (hexB (shaB (B (headL num rec.length ++ rec)))).size = 64 := by rw [hexB_size, shaB_size]
  unfold impl_logLine.f
  rw [hsp, hnl]
  simp only [B_size, itoa_f num (by omega), itoa_f rec.length (by omega), Option.bind_some]
  refine Ends.pos (by omega) ?_
  simp only [B_app, B_size]
  refine Ends.pos (by (try simp only [List.length_append, List.length_singleton, List.length_nil, List.length_cons, hx2]); omega) (Ends.pos (by (try simp only [List.length_append, List.length_singleton, List.length_nil, List.length_cons, hx2]); omega) (Ends.pos (by (try simp only [List.length_append, List.length_singleton, List.length_nil, List.length_cons, hx2]); omega) ?_))
  rw [show dec num ++ [32] ++ dec rec.length ++ [32] = headL num rec.length from rfl]
  refine Ends.bind (hash_impl _ (by rw [B_size, List.length_append, headL_len]; omega)) ?_
  refine Ends.pos (by decide) (Ends.pos (by rw [hsz]; decide) ?_)
  have e : (hexB (shaB (B (headL num rec.length ++ rec)))).extract 0 16 = B (hx (headL num rec.length ++ rec)) := by
    conv => lhs; rw [B_of (hexB (shaB (B (headL num rec.length ++ rec))))]
    rw [B_ext]
    rfl
  have h3 := headL_len num rec.length
  have h4 := hx_len (headL num rec.length ++ rec)
  simp only [e, B_app, B_size]
  refine Ends.pos (by (try simp only [List.length_append, List.length_singleton, List.length_nil, List.length_cons, hx2]); omega) (Ends.pos (by (try simp only [List.length_append, List.length_singleton, List.length_nil, List.length_cons, hx2]); omega) (Ends.pos (by (try simp only [List.length_append, List.length_singleton, List.length_nil, List.length_cons, hx2]); omega) (Ends.pos (by (try simp only [List.length_append, List.length_singleton, List.length_nil, List.length_cons, hx2]); omega) (Ends.pure fun k => rfl))))
end Go.Proofs.YtagdiodhdnebaaaDoor.P
