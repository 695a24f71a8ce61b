/- spec.l1Padded: the walk. -/
import Derived.Test.YtagdiodhdnebaaaDoorOp
import Derived.Test.YtagdiodhdnebaaaDoorPx0
set_option linter.unusedVariables false
set_option linter.unusedSimpArgs false
namespace Go.Proofs.YtagdiodhdnebaaaDoor.P
open Go.RowKit Go.Proofs.YtagdiodhdnebaaaDoorW.PrintWords Go.Proofs.YtagdiodhdnebaaaDoorW.PrintMore
def padTo (s : ByteArray) (j : Nat) : List Int := bytesOf s ++ 128 :: List.replicate j 0
theorem padTo_len (s : ByteArray) (j : Nat) : (padTo s j).length = s.size + 1 + j := by simp [padTo, bytesOf]; omega
theorem padTo_more (s : ByteArray) (j : Nat) : padTo s j ++ [0] = padTo s (j + 1) := by simp [padTo, List.replicate_succ']
theorem padB_eq (s : ByteArray) : padB s = padTo s ((119 - s.size % 64) % 64) ++ lenBytes s.size := by simp [padB, padTo]
theorem lenBytes_len (n : Nat) : (lenBytes n).length = 8 := rfl
set_option maxHeartbeats 4000000 in
set_option maxRecDepth 100000 in
theorem spec_l1Padded.calls (a0 : ByteArray) (r : List Int) (w : World) (h : spec_l1Padded.f a0 = some r) :
    Calls Tryd.prog 65 #[.string a0] w fun e w' => ∃ v0_ : Value, e = .returned v0_ ∧ Kd.V (Kd.int .u8) 5 w' w.heap.size (fun k_ => w.heap.size ≤ k_) v0_ r ∧ Below w.heap.size w w' := by
 have HB := Aside0.mk (Below.refl w.heap.size w)
 obtain ⟨hs0, hr0⟩ : a0.size ≤ 1099511627776 ∧ padB a0 = r := by
  unfold spec_l1Padded.f at h
  split at h
  · exact ⟨by assumption, Option.some.inj h⟩
  · cases h
 have hs := Aside0.mk hs0
 have hr := Aside0.mk hr0
 clear h hs0 hr0
 obtain ⟨M, hM⟩ : ∃ M : Int, wrap64 ((a0.size : Int) * 8) = M := ⟨_, rfl⟩
 have hM2 : Aside0 (M = 8 * (a0.size : Int)) := ⟨by rw [← hM]; unfold wrap64; have := hs.out; omega⟩
 obtain ⟨Z, hZ0⟩ : ∃ Z, Z = (119 - a0.size % 64) % 64 := ⟨_, rfl⟩
 have hZ := Aside0.mk hZ0
 clear hZ0
 go_enter Tryd.func65, Tryd.ntmps65
 go_wp2_with (first | ((with_reducible refine gate_dst (N := 7) rfl ?_); refine open_conv (w0 := w) w.heap.size rfl (.tmp 6) 9 34 rfl a0 rfl Tryd.underlying9 Tryd.underlying34 Tryd.underlying5 (by have := hs.out; simp only [maxLen]; omega) HB.out (by simp) ?_; intro v1 w1 ho1 hb1; clear HB; have HO := Aside0.mk ho1; have HB := Aside0.mk hb1; have hbs := Aside0.mk hb1.size; clear ho1 hb1) | ((with_reducible refine gate_dst (N := 9) rfl ?_); refine open_append (w0 := w) w.heap.size rfl (.tmp 7) (.tmp 8) 34 rfl Tryd.underlying34 info5 _ (bytesOf a0) 128 rfl rfl HO.out HB.out hbs.out (by have := hs.out; simp [bytesOf]; omega) ?_; intro v2 w2 ho1 hb1; clear HO HB hbs; have HO := Aside0.mk ho1; have HB := Aside0.mk hb1; clear ho1 hb1))
 go_loopg [3] Z (fun kq v3 w' => Aside0 (∃ j, j + kq = Z ∧ OpenB w' w.heap.size v3 (padTo a0 j)) ∧ Aside0 (Below w.heap.size w w'))
 case atStart => exact ⟨⟨0, by omega, by simpa [padTo] using HO.out⟩, HB⟩
 case round =>
  clear HO
  clear HB
  obtain ⟨HJ, HB⟩ := hrel
  obtain ⟨j, hj0, ho⟩ := HJ.out
  clear HJ
  have hj := Aside0.mk hj0
  clear hj0
  obtain ⟨g, c, rfl, hc, hg1, hg2, hcm, hrd⟩ := ho.reads
  clear hc hg1 hg2 hcm hrd
  obtain ⟨n, hn0⟩ : ∃ n, (padTo a0 j).length = n := ⟨_, rfl⟩
  rw [hn0] at ho ⊢
  have HO := Aside0.mk ho
  clear ho
  have hn : Aside0 (n = a0.size + 1 + j) := ⟨by rw [← hn0]; exact padTo_len a0 j⟩
  have hn9 := Aside0.mk hn0
  clear hn0
  cases gk with
  | zero =>
   have c1 : ((n : Int) % 64 == 56) = true := by have := hn.out; have := hj.out; have := hZ.out; simp; omega
   have c2 : ((n : Int) % 64 != 56) = false := by have := hn.out; have := hj.out; have := hZ.out; simp; omega
   go_wp2
   obtain rfl : j = Z := by have := hj.out; omega
   clear hn hn9 c1 c2
   try simp only [hM]
   go_loopg [3, 5] 8 (fun kq v3 v5 w' => ∃ x5 : Int, v5 = .int .i64 x5 ∧ Aside0 (x5 = (kq : Int) - 1) ∧ Aside0 (kq ≤ 8) ∧ Aside0 (OpenB w' w.heap.size v3 (padTo a0 j ++ (lenBytes a0.size).take (8 - kq))) ∧ Aside0 (Below w.heap.size w w'))
   case atStart => exact ⟨7, rfl, ⟨rfl⟩, ⟨Nat.le_refl _⟩, ⟨by simpa using HO.out⟩, HB⟩
   case round =>
    clear HO
    clear HB
    obtain ⟨x5, rfl, hx, hk, HO, HB⟩ := hrel
    cases gk with
    | zero =>
     obtain rfl : x5 = -1 := by have := hx.out; omega
     go_wp2
     go_ret
     exact ⟨_, rfl, OpenB.view (by have := HO.out; rw [← hr.out, padB_eq, ← hZ.out]; exact this) (fun _ h => h), HB.out⟩
    | succ k1 =>
     obtain ⟨g2, c2, rfl, hc2, hg1, hg2, hcm, hrd⟩ := HO.out.reads
     clear hc2 hg1 hg2 hcm hrd
     obtain ⟨m, hm0⟩ : ∃ m, (padTo a0 j ++ (lenBytes a0.size).take (8 - (k1 + 1))).length = m := ⟨_, rfl⟩
     rw [hm0] at HO ⊢
     have hm : Aside0 (m ≤ a0.size + 1 + j + 8) := ⟨by rw [← hm0, List.length_append, padTo_len]; have : ((lenBytes a0.size).take (8 - (k1 + 1))).length ≤ 8 := by rw [List.length_take, lenBytes_len]; omega
                                                       omega⟩
     have hm9 := Aside0.mk hm0
     clear hm0
     have hk0 := hk.out
     have hkk : k1 = 0 ∨ k1 = 1 ∨ k1 = 2 ∨ k1 = 3 ∨ k1 = 4 ∨ k1 = 5 ∨ k1 = 6 ∨ k1 = 7 := by omega
     clear hk0
     rcases hkk with hk1 | hk1 | hk1 | hk1 | hk1 | hk1 | hk1 | hk1
     · obtain rfl : k1 = 0 := hk1
       obtain rfl : x5 = 0 := by have := hx.out; omega
       go_wp2_with (first | ((with_reducible refine gate_dst (N := 31) rfl ?_); refine open_append (w0 := w) w.heap.size rfl (.tmp 24) (.tmp 30) 34 rfl Tryd.underlying34 info5 _ (padTo a0 j ++ (lenBytes a0.size).take 7) (M % 256) rfl rfl HO.out HB.out HB.out.size (by have := hs.out; have := hm.out; have := hm9.out; have := hZ.out; simp only [Nat.reduceAdd, Nat.reduceSub] at *; omega) ?_; intro v2 w2 ho1 hb1; clear HO HB; have HO := Aside0.mk ho1; have HB := Aside0.mk hb1; clear ho1 hb1))
       go_roundg 0
       case measure => omega
       case rel => exact ⟨_, rfl, ⟨by omega⟩, ⟨by omega⟩, ⟨by have := HO.out; rw [hM2.out, List.append_assoc] at this; first | exact this | (simp [lenBytes] at this ⊢; exact this)⟩, HB⟩
     · obtain rfl : k1 = 1 := hk1
       obtain rfl : x5 = 1 := by have := hx.out; omega
       go_wp2_with (first | ((with_reducible refine gate_dst (N := 31) rfl ?_); refine open_append (w0 := w) w.heap.size rfl (.tmp 24) (.tmp 30) 34 rfl Tryd.underlying34 info5 _ (padTo a0 j ++ (lenBytes a0.size).take 6) (M / 256 % 256) rfl rfl HO.out HB.out HB.out.size (by have := hs.out; have := hm.out; have := hm9.out; have := hZ.out; simp only [Nat.reduceAdd, Nat.reduceSub] at *; omega) ?_; intro v2 w2 ho1 hb1; clear HO HB; have HO := Aside0.mk ho1; have HB := Aside0.mk hb1; clear ho1 hb1))
       go_roundg 1
       case measure => omega
       case rel => exact ⟨_, rfl, ⟨by omega⟩, ⟨by omega⟩, ⟨by have := HO.out; rw [hM2.out, List.append_assoc] at this; first | exact this | (simp [lenBytes] at this ⊢; exact this)⟩, HB⟩
     · obtain rfl : k1 = 2 := hk1
       obtain rfl : x5 = 2 := by have := hx.out; omega
       go_wp2_with (first | ((with_reducible refine gate_dst (N := 31) rfl ?_); refine open_append (w0 := w) w.heap.size rfl (.tmp 24) (.tmp 30) 34 rfl Tryd.underlying34 info5 _ (padTo a0 j ++ (lenBytes a0.size).take 5) (M / 65536 % 256) rfl rfl HO.out HB.out HB.out.size (by have := hs.out; have := hm.out; have := hm9.out; have := hZ.out; simp only [Nat.reduceAdd, Nat.reduceSub] at *; omega) ?_; intro v2 w2 ho1 hb1; clear HO HB; have HO := Aside0.mk ho1; have HB := Aside0.mk hb1; clear ho1 hb1))
       go_roundg 2
       case measure => omega
       case rel => exact ⟨_, rfl, ⟨by omega⟩, ⟨by omega⟩, ⟨by have := HO.out; rw [hM2.out, List.append_assoc] at this; first | exact this | (simp [lenBytes] at this ⊢; exact this)⟩, HB⟩
     · obtain rfl : k1 = 3 := hk1
       obtain rfl : x5 = 3 := by have := hx.out; omega
       go_wp2_with (first | ((with_reducible refine gate_dst (N := 31) rfl ?_); refine open_append (w0 := w) w.heap.size rfl (.tmp 24) (.tmp 30) 34 rfl Tryd.underlying34 info5 _ (padTo a0 j ++ (lenBytes a0.size).take 4) (M / 16777216 % 256) rfl rfl HO.out HB.out HB.out.size (by have := hs.out; have := hm.out; have := hm9.out; have := hZ.out; simp only [Nat.reduceAdd, Nat.reduceSub] at *; omega) ?_; intro v2 w2 ho1 hb1; clear HO HB; have HO := Aside0.mk ho1; have HB := Aside0.mk hb1; clear ho1 hb1))
       go_roundg 3
       case measure => omega
       case rel => exact ⟨_, rfl, ⟨by omega⟩, ⟨by omega⟩, ⟨by have := HO.out; rw [hM2.out, List.append_assoc] at this; first | exact this | (simp [lenBytes] at this ⊢; exact this)⟩, HB⟩
     · obtain rfl : k1 = 4 := hk1
       obtain rfl : x5 = 4 := by have := hx.out; omega
       go_wp2_with (first | ((with_reducible refine gate_dst (N := 31) rfl ?_); refine open_append (w0 := w) w.heap.size rfl (.tmp 24) (.tmp 30) 34 rfl Tryd.underlying34 info5 _ (padTo a0 j ++ (lenBytes a0.size).take 3) (M / 4294967296 % 256) rfl rfl HO.out HB.out HB.out.size (by have := hs.out; have := hm.out; have := hm9.out; have := hZ.out; simp only [Nat.reduceAdd, Nat.reduceSub] at *; omega) ?_; intro v2 w2 ho1 hb1; clear HO HB; have HO := Aside0.mk ho1; have HB := Aside0.mk hb1; clear ho1 hb1))
       go_roundg 4
       case measure => omega
       case rel => exact ⟨_, rfl, ⟨by omega⟩, ⟨by omega⟩, ⟨by have := HO.out; rw [hM2.out, List.append_assoc] at this; first | exact this | (simp [lenBytes] at this ⊢; exact this)⟩, HB⟩
     · obtain rfl : k1 = 5 := hk1
       obtain rfl : x5 = 5 := by have := hx.out; omega
       go_wp2_with (first | ((with_reducible refine gate_dst (N := 31) rfl ?_); refine open_append (w0 := w) w.heap.size rfl (.tmp 24) (.tmp 30) 34 rfl Tryd.underlying34 info5 _ (padTo a0 j ++ (lenBytes a0.size).take 2) (M / 1099511627776 % 256) rfl rfl HO.out HB.out HB.out.size (by have := hs.out; have := hm.out; have := hm9.out; have := hZ.out; simp only [Nat.reduceAdd, Nat.reduceSub] at *; omega) ?_; intro v2 w2 ho1 hb1; clear HO HB; have HO := Aside0.mk ho1; have HB := Aside0.mk hb1; clear ho1 hb1))
       go_roundg 5
       case measure => omega
       case rel => exact ⟨_, rfl, ⟨by omega⟩, ⟨by omega⟩, ⟨by have := HO.out; rw [hM2.out, List.append_assoc] at this; first | exact this | (simp [lenBytes] at this ⊢; exact this)⟩, HB⟩
     · obtain rfl : k1 = 6 := hk1
       obtain rfl : x5 = 6 := by have := hx.out; omega
       go_wp2_with (first | ((with_reducible refine gate_dst (N := 31) rfl ?_); refine open_append (w0 := w) w.heap.size rfl (.tmp 24) (.tmp 30) 34 rfl Tryd.underlying34 info5 _ (padTo a0 j ++ (lenBytes a0.size).take 1) (M / 281474976710656 % 256) rfl rfl HO.out HB.out HB.out.size (by have := hs.out; have := hm.out; have := hm9.out; have := hZ.out; simp only [Nat.reduceAdd, Nat.reduceSub] at *; omega) ?_; intro v2 w2 ho1 hb1; clear HO HB; have HO := Aside0.mk ho1; have HB := Aside0.mk hb1; clear ho1 hb1))
       go_roundg 6
       case measure => omega
       case rel => exact ⟨_, rfl, ⟨by omega⟩, ⟨by omega⟩, ⟨by have := HO.out; rw [hM2.out, List.append_assoc] at this; first | exact this | (simp [lenBytes] at this ⊢; exact this)⟩, HB⟩
     · obtain rfl : k1 = 7 := hk1
       obtain rfl : x5 = 7 := by have := hx.out; omega
       go_wp2_with (first | ((with_reducible refine gate_dst (N := 31) rfl ?_); refine open_append (w0 := w) w.heap.size rfl (.tmp 24) (.tmp 30) 34 rfl Tryd.underlying34 info5 _ (padTo a0 j ++ (lenBytes a0.size).take 0) (M / 72057594037927936 % 256) rfl rfl HO.out HB.out HB.out.size (by have := hs.out; have := hm.out; have := hm9.out; have := hZ.out; simp only [Nat.reduceAdd, Nat.reduceSub] at *; omega) ?_; intro v2 w2 ho1 hb1; clear HO HB; have HO := Aside0.mk ho1; have HB := Aside0.mk hb1; clear ho1 hb1))
       go_roundg 7
       case measure => omega
       case rel => exact ⟨_, rfl, ⟨by omega⟩, ⟨by omega⟩, ⟨by have := HO.out; rw [hM2.out, List.append_assoc] at this; first | exact this | (simp [lenBytes] at this ⊢; exact this)⟩, HB⟩
  | succ k1 =>
   have c1 : ((n : Int) % 64 == 56) = false := by have := hn.out; have := hj.out; have := hZ.out; simp; omega
   have c2 : ((n : Int) % 64 != 56) = true := by have := hn.out; have := hj.out; have := hZ.out; simp; omega
   go_wp2_with (first | ((with_reducible refine gate_dst (N := 16) rfl ?_); refine open_append (w0 := w) w.heap.size rfl (.tmp 14) (.tmp 15) 34 rfl Tryd.underlying34 info5 _ (padTo a0 j) 0 rfl rfl HO.out HB.out HB.out.size (by have := hs.out; have := hn.out; have := hn9.out; have := hj.out; have := hZ.out; omega) ?_; intro v2 w2 ho1 hb1; clear HO HB; have HO := Aside0.mk ho1; have HB := Aside0.mk hb1; clear ho1 hb1))
   go_roundg k1
   case measure => omega
   case rel => exact ⟨⟨j + 1, by have := hj.out; omega, by have := HO.out; rwa [padTo_more] at this⟩, HB⟩
end Go.Proofs.YtagdiodhdnebaaaDoor.P
