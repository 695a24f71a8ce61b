/- impl.sha256Of: the walk, in parts (printed by wip/log/gen_sha.py). -/
import Derived.Test.YtagdiodhdnebaaaDoorShaV
import Derived.Test.YtagdiodhdnebaaaDoorShaH
import Derived.Test.YtagdiodhdnebaaaDoorShaZ
set_option linter.unusedVariables false
set_option linter.unusedSimpArgs false
namespace Go.Proofs.YtagdiodhdnebaaaDoor.P
open Go.RowKit Go.Proofs.YtagdiodhdnebaaaDoorW.PrintWords Go.Proofs.YtagdiodhdnebaaaDoorW.PrintLast Go.Proofs.YtagdiodhdnebaaaDoorW.PrintMore

theorem cut64 (ad : Addr) (n c : Nat) (h64 : 64 ≤ n) : ∀ W : World, (Instr.slice 34 (.slice (some ad) n c) (some (.int .i64 64)) none none).run Tryd.prog W = .ok (.slice (some (if c = 64 then ad else ad.add 64)) (n - 64) (c - 64)) W := by
  intro W
  obtain ⟨i, hi, hz0, hz1, hz2⟩ := info_parts info5
  have hel : Tryd.prog.elem 34 = 5 := by simp [Program.elem, Tryd.underlying34]
  have hu : Tryd.prog.underlying 34 = some (.slice (Tryd.prog.elem 34)) := by rw [hel]; exact Tryd.underlying34
  rw [run_slice_l W 34 (some ad) n c hu .i64 64 (by decide) (by omega), hel]
  simp [sizeOf, typeInfo, hi, hz1, sliced, Result.andThen]
  split <;> rfl
set_option maxHeartbeats 40000000 in
set_option maxRecDepth 1000000 in
theorem gLoop {c0 c1 c2 c5 c6 c7 c8 c9 c10 c11 c12 c13 c14 c15 c16 c17 c18 c19 c20 c21 c22 c23 c24 c25 c26 c27 c28 c29 c30 c31 c32 c33 c34 c35 c36 c37 c38 c39 c40 c41 c42 c43 c44 c45 c46 c47 c48 c49 c50 c51 c52 c53 c54 c55 c56 c57 c58 c59 c60 c61 c62 c63 c64 c65 c66 c67 c68 c69 c70 c71 c72 c73 c74 c75 c76 c77 c78 c79 c80 c81 c82 c83 c84 c85 c86 c87 c88 c89 c90 c91 c92 c93 c94 c95 c96 c97 c98 c99 c100 c101 c102 c103 c104 c105 c106 c107 c108 c109 c110 c111 c112 c113 c114 c115 c116 c117 c118 c119 c120 c121 c122 c123 c124 c125 c126 c127 c128 c129 c130 c131 c132 c133 c134 c135 c136 c137 c138 c139 c140 c141 c142 c143 c144 c145 c146 c147 c148 c149 c150 c151 c152 c153 c154 c155 c156 c157 c158 c159 c160 c161 c162 c163 c164 c165 c166 c167 c168 c169 c170 c171 c172 c173 c174 c175 c176 c177 c178 c179 c180 c181 c182 c183 c184 c185 c186 c187 c188 c189 c190 c191 c192 c193 c194 c195 c196 c197 c198 c199 c200 c201 c202 c203 c204 c205 c206 c207 c208 c209 c210 c211 c212 c213 c214 c215 c216 c217 c218 c219 c220 c221 c222 c223 c224 c225 c226 c227 c228 c229 c230 c231 c232 c233 c234 c235 c236 c237 c238 c239 c240 c241 c242 c243 c244 c245 c246 v4 : Value} {hb NB : Nat} {h0 xs0 : List Int} {W2 : World} {Q : Exit → Act → World → Prop} (hh0 : h0.length = 8) (hxs : xs0.length = 64 * NB) (hrow : Row32 W2 hb 76 h0) (hbv : BV W2 hb v4 xs0) (hb0 : hb ≠ 0)
    (hsha : ∀ i, i < 64 → W2.cell? ⟨0, i, none⟩ = some (.int .u32 (shaTab.getD i 0)))
    (hexit : ∀ u4 u7 u8 u9 u10 u11 u12 u13 u14 u15 u16 u17 u48 u49 u50 u51 u52 u53 u54 u55 u56 u57 u58 u59 u60 u61 u62 u63 u64 u65 u66 u67 u68 u69 u70 u71 u72 u73 u74 u75 u76 u77 u78 u79 u80 u81 u82 u83 u84 u85 u86 u87 u88 u89 u90 u91 u92 u93 u94 u95 u96 u97 u98 u99 u100 u101 u102 u103 u104 u105 u106 u107 u108 u109 u110 u111 u112 u113 u114 u115 u116 u117 u118 u119 u120 u121 u122 u123 u124 u125 u126 u127 u128 u129 u130 u131 u132 u133 u134 u135 u136 u137 u138 u139 u140 u141 u142 u143 u144 u145 u146 u147 u148 u149 u150 u151 u152 u153 u154 u155 u156 u157 u158 u159 u160 u161 u162 u163 u164 u165 u166 u167 u168 u169 u170 u171 u172 u173 u174 u175 u176 u177 u178 u179 u180 u181 u182 u183 u184 u185 u186 u187 u188 u189 u190 u191 u192 u193 u194 u195 u196 u197 u198 u199 u200 u201 u202 u203 u204 u205 u206 u207 u208 u209 u210 u211 u212 u213 u214 u215 u216 u217 u218 u219 u220 u221 u222 u223 u224 w', ((Row32 w' hb 76 (sumH NB h0 xs0) ∧ (sumH NB h0 xs0).length = 8) ∧ W2.grownBy w' (some hb)) → Q (.exit 4) ⟨List.toArray (c0 :: c1 :: c2 :: .pointer (some ⟨hb, 0, none⟩) :: u4 :: c5 :: c6 :: u7 :: u8 :: u9 :: u10 :: u11 :: u12 :: u13 :: u14 :: u15 :: u16 :: u17 :: c18 :: c19 :: c20 :: c21 :: c22 :: c23 :: c24 :: c25 :: c26 :: c27 :: c28 :: c29 :: c30 :: c31 :: c32 :: c33 :: c34 :: c35 :: c36 :: c37 :: c38 :: c39 :: c40 :: c41 :: c42 :: c43 :: c44 :: c45 :: c46 :: c47 :: u48 :: u49 :: u50 :: u51 :: u52 :: u53 :: u54 :: u55 :: u56 :: u57 :: u58 :: u59 :: u60 :: u61 :: u62 :: u63 :: u64 :: u65 :: u66 :: u67 :: u68 :: u69 :: u70 :: u71 :: u72 :: u73 :: u74 :: u75 :: u76 :: u77 :: u78 :: u79 :: u80 :: u81 :: u82 :: u83 :: u84 :: u85 :: u86 :: u87 :: u88 :: u89 :: u90 :: u91 :: u92 :: u93 :: u94 :: u95 :: u96 :: u97 :: u98 :: u99 :: u100 :: u101 :: u102 :: u103 :: u104 :: u105 :: u106 :: u107 :: u108 :: u109 :: u110 :: u111 :: u112 :: u113 :: u114 :: u115 :: u116 :: u117 :: u118 :: u119 :: u120 :: u121 :: u122 :: u123 :: u124 :: u125 :: u126 :: u127 :: u128 :: u129 :: u130 :: u131 :: u132 :: u133 :: u134 :: u135 :: u136 :: u137 :: u138 :: u139 :: u140 :: u141 :: u142 :: u143 :: u144 :: u145 :: u146 :: u147 :: u148 :: u149 :: u150 :: u151 :: u152 :: u153 :: u154 :: u155 :: u156 :: u157 :: u158 :: u159 :: u160 :: u161 :: u162 :: u163 :: u164 :: u165 :: u166 :: u167 :: u168 :: u169 :: u170 :: u171 :: u172 :: u173 :: u174 :: u175 :: u176 :: u177 :: u178 :: u179 :: u180 :: u181 :: u182 :: u183 :: u184 :: u185 :: u186 :: u187 :: u188 :: u189 :: u190 :: u191 :: u192 :: u193 :: u194 :: u195 :: u196 :: u197 :: u198 :: u199 :: u200 :: u201 :: u202 :: u203 :: u204 :: u205 :: u206 :: u207 :: u208 :: u209 :: u210 :: u211 :: u212 :: u213 :: u214 :: u215 :: u216 :: u217 :: u218 :: u219 :: u220 :: u221 :: u222 :: u223 :: u224 :: c225 :: c226 :: c227 :: c228 :: c229 :: c230 :: c231 :: c232 :: c233 :: c234 :: c235 :: c236 :: c237 :: c238 :: c239 :: c240 :: c241 :: c242 :: c243 :: c244 :: c245 :: c246 :: []), []⟩ w') :
    (Code.loop gRound).wp Tryd.prog Q ⟨List.toArray (c0 :: c1 :: c2 :: .pointer (some ⟨hb, 0, none⟩) :: v4 :: c5 :: c6 :: c7 :: c8 :: c9 :: c10 :: c11 :: c12 :: c13 :: c14 :: c15 :: c16 :: c17 :: c18 :: c19 :: c20 :: c21 :: c22 :: c23 :: c24 :: c25 :: c26 :: c27 :: c28 :: c29 :: c30 :: c31 :: c32 :: c33 :: c34 :: c35 :: c36 :: c37 :: c38 :: c39 :: c40 :: c41 :: c42 :: c43 :: c44 :: c45 :: c46 :: c47 :: c48 :: c49 :: c50 :: c51 :: c52 :: c53 :: c54 :: c55 :: c56 :: c57 :: c58 :: c59 :: c60 :: c61 :: c62 :: c63 :: c64 :: c65 :: c66 :: c67 :: c68 :: c69 :: c70 :: c71 :: c72 :: c73 :: c74 :: c75 :: c76 :: c77 :: c78 :: c79 :: c80 :: c81 :: c82 :: c83 :: c84 :: c85 :: c86 :: c87 :: c88 :: c89 :: c90 :: c91 :: c92 :: c93 :: c94 :: c95 :: c96 :: c97 :: c98 :: c99 :: c100 :: c101 :: c102 :: c103 :: c104 :: c105 :: c106 :: c107 :: c108 :: c109 :: c110 :: c111 :: c112 :: c113 :: c114 :: c115 :: c116 :: c117 :: c118 :: c119 :: c120 :: c121 :: c122 :: c123 :: c124 :: c125 :: c126 :: c127 :: c128 :: c129 :: c130 :: c131 :: c132 :: c133 :: c134 :: c135 :: c136 :: c137 :: c138 :: c139 :: c140 :: c141 :: c142 :: c143 :: c144 :: c145 :: c146 :: c147 :: c148 :: c149 :: c150 :: c151 :: c152 :: c153 :: c154 :: c155 :: c156 :: c157 :: c158 :: c159 :: c160 :: c161 :: c162 :: c163 :: c164 :: c165 :: c166 :: c167 :: c168 :: c169 :: c170 :: c171 :: c172 :: c173 :: c174 :: c175 :: c176 :: c177 :: c178 :: c179 :: c180 :: c181 :: c182 :: c183 :: c184 :: c185 :: c186 :: c187 :: c188 :: c189 :: c190 :: c191 :: c192 :: c193 :: c194 :: c195 :: c196 :: c197 :: c198 :: c199 :: c200 :: c201 :: c202 :: c203 :: c204 :: c205 :: c206 :: c207 :: c208 :: c209 :: c210 :: c211 :: c212 :: c213 :: c214 :: c215 :: c216 :: c217 :: c218 :: c219 :: c220 :: c221 :: c222 :: c223 :: c224 :: c225 :: c226 :: c227 :: c228 :: c229 :: c230 :: c231 :: c232 :: c233 :: c234 :: c235 :: c236 :: c237 :: c238 :: c239 :: c240 :: c241 :: c242 :: c243 :: c244 :: c245 :: c246 :: []), []⟩ W2 := by
 conv => arg 2; arg 1; whnf
 have HSH := Aside0.mk hsha
 have HB0 := Aside0.mk hb0
 have HROW := Aside0.mk hrow
 have HBV := Aside0.mk hbv
 have HH0 := Aside0.mk hh0
 have HXS := Aside0.mk hxs
 obtain ⟨R, hR⟩ : ∃ R, sumH NB h0 xs0 = R := ⟨_, rfl⟩
 rw [hR] at hexit
 have HR := Aside0.mk hR
 clear hsha hb0 hrow hbv hh0 hxs hR
 go_loopg [4] NB (fun kq v4 w' => Aside0 (∃ h xs, h.length = 8 ∧ xs.length = 64 * kq ∧ sumH kq h xs = R ∧ Row32 w' hb 76 h ∧ BV W2 hb v4 xs) ∧ Aside0 (W2.grownBy w' (some hb)))
 case atStart => exact ⟨⟨h0, xs0, HH0.out, HXS.out, HR.out, HROW.out, HBV.out⟩, ⟨World.grownBy.refl _ _⟩⟩
 case round =>
  clear HROW HBV HH0 HXS HR
  obtain ⟨HJ, HGR⟩ := hrel
  obtain ⟨h, xs, h8, hxl, hsum, hrow, ad, c3v, rfl, hc, hcm, hne, hcell⟩ := HJ.out
  clear HJ
  obtain ⟨n, hn0⟩ : ∃ n, xs.length = n := ⟨_, rfl⟩
  rw [hn0] at hxl hc ⊢
  have HN := Aside0.mk hn0
  have HL := Aside0.mk hxl
  have HC := Aside0.mk hc
  have HM := Aside0.mk hcm
  have HNE := Aside0.mk hne
  have HCELL := Aside0.mk hcell
  have HSUM := Aside0.mk hsum
  have H8 := Aside0.mk h8
  have HROW := Aside0.mk hrow
  clear hn0 hxl hc hcm hne hcell hsum h8 hrow
  cases gk with
  | zero =>
   obtain rfl : n = 0 := by have := HL.out; omega
   go_wp2
   exact ⟨⟨by rw [← HSUM.out]; exact HROW.out, by rw [← HSUM.out]; exact H8.out⟩, HGR.out⟩
  | succ k1 =>
   have d1 : decide (0 < (n : Int)) = true := by have := HL.out; simp; omega
   have d2 : decide (0 < n) = true := by have := HL.out; simp; omega
   have d3 : (0 < n) = True := by have := HL.out; simp; omega
   have hn64 : 64 ≤ n := by have := HL.out; omega
   have HN64 := Aside0.mk hn64
   clear hn64
   go_wp2_with (first | ((with_reducible refine gate_dst (N := 53) rfl ?_); refine z_build rfl rfl ?_; intro Z HZ) | ((with_reducible refine gate_dst (N := 7) rfl ?_); refine z_alloc rfl rfl ?_; intro w1 HW) | (refine z_store rfl rfl (x := .tmp 7) (y := .tmp 53) (W0 := wr) rfl rfl HZ HW ?_; clear HZ HW; intro W3 hz; have HZ1 := Aside0.mk hz.out.1; have HZ2 := Aside0.mk hz.out.2; clear hz))
   obtain ⟨wb, hwb⟩ : ∃ b, wr.heap.size = b := ⟨_, rfl⟩
   rw [hwb] at HZ1 ⊢
   have HWB := Aside0.mk hwb
   clear hwb
   have hcell3 : ∀ j u, xs[j]? = some u → W3.cell? (ad.add j) = some (.int .u8 u) ∧ ad.block ≠ wb := by
    intro j u hj
    have c1 := HCELL.out j u hj
    have e2 : (ad.add j).block = ad.block := by unfold Addr.add; split <;> rfl
    have hlt := World.block_lt_of_cell? W2 _ c1
    have c2 := (World.cell?_of_block (HGR.out.block _ hlt (by rw [e2]; exact fun e => HNE.out (Option.some.inj e)))).trans c1
    have hlt2 := World.block_lt_of_cell? wr _ c2
    have c3 := (World.cell?_of_block (HZ2.out.block _ hlt2 (by simp))).trans c2
    exact ⟨c3, by rw [← HWB.out, ← e2]; exact Nat.ne_of_lt hlt2⟩
   have hne3 : ad.block ≠ wb := by
    have hl : 0 < xs.length := by have := HN.out; have := HN64.out; omega
    exact (hcell3 0 _ (List.getElem?_eq_getElem hl)).2
   have HCELL3 := Aside0.mk (fun j u hj => (hcell3 j u hj).1)
   have hrow3 : Row32 W3 hb 76 h := HROW.out.grown HZ2.out (by simp)
   have hsha3 : ∀ i, i < 64 → W3.cell? ⟨0, i, none⟩ = some (.int .u32 (shaTab.getD i 0)) := fun i hi => by
    have c1 := HSH.out i hi
    have c2 := (World.cell?_of_block (HGR.out.block _ (World.block_lt_of_cell? W2 _ c1) (by simp; exact fun e => HB0.out e.symm))).trans c1
    exact (World.cell?_of_block (HZ2.out.block _ (World.block_lt_of_cell? wr _ c2) (by simp))).trans c2
   have hhb : hb < wb := by rw [← HWB.out]; exact HROW.out.lt
   have h0wb : 0 < wb := Nat.lt_of_le_of_lt (Nat.zero_le _) hhb
   have HROW3 := Aside0.mk hrow3
   have HSH3 := Aside0.mk hsha3
   have HNE3 := Aside0.mk hne3
   have HHB := Aside0.mk hhb
   have H0WB := Aside0.mk h0wb
   clear hcell3 hne3 hrow3 hsha3 hhb h0wb HROW
   refine wLoop (ad := ad) (wb := wb) (xs := xs) HN.out HN64.out HCELL3.out HNE3.out HZ1.out ?_
   intro u8 u9 u10 u54 u55 u56 u57 u58 u59 u60 u61 u62 u63 u64 u65 u66 u67 u68 u69 u70 u71 u72 u73 u74 u75 u76 u77 u78 u79 u80 u81 u82 u83 u84 u85 u86 u87 u88 u89 u90 u91 u92 u93 u94 u95 u96 u97 u98 u99 u100 u101 u102 u103 u104 u105 u106 u107 u108 u109 u110 u111 u112 u113 u114 u115 u116 u117 u118 u119 u120 u121 u122 u123 u124 u125 u126 u127 u128 u129 u130 u131 w4 hw4
   obtain ⟨hw5, hw6⟩ := hw4
   have HW4 := Aside0.mk hw5
   have HG4 := Aside0.mk hw6
   have hrow4 : Row32 w4 hb 76 h := HROW3.out.grown hw6 (by simp; have := HHB.out; omega)
   have hsha4 : ∀ i, i < 64 → w4.cell? ⟨0, i, none⟩ = some (.int .u32 (shaTab.getD i 0)) := fun i hi =>
    (World.cell?_of_block (hw6.block _ (World.block_lt_of_cell? W3 _ (HSH3.out i hi)) (by simp; have := H0WB.out; omega))).trans (HSH3.out i hi)
   have HROW4 := Aside0.mk hrow4
   have HSH4 := Aside0.mk hsha4
   clear hw5 hw6 hrow4 hsha4 HROW3 HSH3 HZ1
   obtain ⟨x0, x1, x2, x3, x4, x5, x6, x7, hx8⟩ : ∃ x0 x1 x2 x3 x4 x5 x6 x7, h = [x0, x1, x2, x3, x4, x5, x6, x7] := by
    match h, H8.out with
    | [x0, x1, x2, x3, x4, x5, x6, x7], _ => exact ⟨x0, x1, x2, x3, x4, x5, x6, x7, rfl⟩
   subst hx8
   have e0 : w4.cell? ⟨hb, 0, none⟩ = some (.int .u32 x0) := HROW4.out.cell 0 (by simp)
   have e1 : w4.cell? ⟨hb, 1, none⟩ = some (.int .u32 x1) := HROW4.out.cell 1 (by simp)
   have e2 : w4.cell? ⟨hb, 2, none⟩ = some (.int .u32 x2) := HROW4.out.cell 2 (by simp)
   have e3 : w4.cell? ⟨hb, 3, none⟩ = some (.int .u32 x3) := HROW4.out.cell 3 (by simp)
   have e4 : w4.cell? ⟨hb, 4, none⟩ = some (.int .u32 x4) := HROW4.out.cell 4 (by simp)
   have e5 : w4.cell? ⟨hb, 5, none⟩ = some (.int .u32 x5) := HROW4.out.cell 5 (by simp)
   have e6 : w4.cell? ⟨hb, 6, none⟩ = some (.int .u32 x6) := HROW4.out.cell 6 (by simp)
   have e7 : w4.cell? ⟨hb, 7, none⟩ = some (.int .u32 x7) := HROW4.out.cell 7 (by simp)
   go_wp2
   clear e0 e1 e2 e3 e4 e5 e6 e7
   obtain ⟨vb, hvb⟩ : ∃ b, w4.heap.size = b := ⟨_, rfl⟩
   have hv5 : Row32 (w4.alloc (Obj.cells #[Value.int .u32 x0, Value.int .u32 x1, Value.int .u32 x2, Value.int .u32 x3, Value.int .u32 x4, Value.int .u32 x5, Value.int .u32 x6, Value.int .u32 x7] 76)) vb 76 [x0, x1, x2, x3, x4, x5, x6, x7] := by rw [← hvb]; exact heap_alloc_new w4 _
   have hg5 : w4.grownBy (w4.alloc (Obj.cells #[Value.int .u32 x0, Value.int .u32 x1, Value.int .u32 x2, Value.int .u32 x3, Value.int .u32 x4, Value.int .u32 x5, Value.int .u32 x6, Value.int .u32 x7] 76)) none := World.grownBy_alloc w4 _ none
   rw [hvb]
   generalize w4.alloc (Obj.cells #[Value.int .u32 x0, Value.int .u32 x1, Value.int .u32 x2, Value.int .u32 x3, Value.int .u32 x4, Value.int .u32 x5, Value.int .u32 x6, Value.int .u32 x7] 76) = w5 at hv5 hg5 ⊢
   have hwb5 : wb < vb := by rw [← hvb]; exact HW4.out.lt
   have hhb5 : hb < vb := by rw [← hvb]; exact HROW4.out.lt
   have HVB := Aside0.mk hvb
   have HV5 := Aside0.mk hv5
   have HG5 := Aside0.mk hg5
   have HW5 : Aside0 (Row32 w5 wb 78 (wordsTo (xs.take 64) 64)) := ⟨HW4.out.grown hg5 (by simp)⟩
   have HROW5 : Aside0 (Row32 w5 hb 76 [x0, x1, x2, x3, x4, x5, x6, x7]) := ⟨HROW4.out.grown hg5 (by simp)⟩
   have HSH5 : Aside0 (∀ i, i < 64 → w5.cell? ⟨0, i, none⟩ = some (.int .u32 (shaTab.getD i 0))) := ⟨fun i hi => (World.cell?_of_block (hg5.block _ (World.block_lt_of_cell? w4 _ (HSH4.out i hi)) (by simp))).trans (HSH4.out i hi)⟩
   have HWVB := Aside0.mk hwb5
   have HHVB := Aside0.mk hhb5
   clear hvb hv5 hg5 hwb5 hhb5 HROW4 HSH4
   refine vLoop (wb := wb) (vb := vb) (ws := wordsTo (xs.take 64) 64) (hh0 := [x0, x1, x2, x3, x4, x5, x6, x7]) (wordsTo_len _ 64) rfl (by have := HWVB.out; omega) (by have := HHVB.out; omega) HW5.out HV5.out HSH5.out ?_
   intro u12 u13 u14 u15 u16 u133 u134 u135 u136 u137 u138 u139 u140 u141 u142 u143 u144 u145 u146 u147 u148 u149 u150 u151 u152 u153 u154 u155 u156 u157 u158 u159 u160 u161 u162 u163 u164 u165 u166 u167 u168 u169 u170 u171 u172 u173 u174 u175 u176 u177 u178 u179 u180 u181 u182 u183 u184 u185 u186 u187 u188 u189 u190 u191 u192 u193 u194 u195 u196 u197 u198 u199 u200 u201 u202 u203 u204 u205 u206 u207 u208 u209 u210 u211 u212 w6 hw6
   obtain ⟨⟨hv6, hl6⟩, hg6⟩ := hw6
   have HV6 := Aside0.mk hv6
   have HL6 := Aside0.mk hl6
   have HG6 := Aside0.mk hg6
   have HROW6 : Aside0 (Row32 w6 hb 76 [x0, x1, x2, x3, x4, x5, x6, x7]) := ⟨HROW5.out.grown hg6 (by simp; have := HHVB.out; omega)⟩
   clear hv6 hl6 hg6 HROW5 HW5 HSH5 HV5
   go_wp2
   refine hLoop (hb := hb) (vb := vb) (hs := [x0, x1, x2, x3, x4, x5, x6, x7]) rfl HL6.out (by have := HHVB.out; omega) HROW6.out HV6.out ?_
   intro u17 u213 u214 u215 u216 u217 u218 u219 u220 u221 u222 u223 u224 w7 hw7
   obtain ⟨hr7, hg7⟩ := hw7
   have HR7 := Aside0.mk hr7
   have HG7 := Aside0.mk hg7
   clear hr7 hg7 HROW6 HV6
   have hcut := cut64 ad n c3v HN64.out
   have hbv : BV W2 hb (.slice (some (if c3v = 64 then ad else ad.add 64)) (n - 64) (c3v - 64)) (xs.drop 64) := BV.drop (n := n) ⟨ad, c3v, by rw [HN.out], by rw [HN.out]; exact HC.out, HM.out, HNE.out, HCELL.out⟩ 64 HN64.out
   have hl9 : (xs.drop 64).length = 64 * k1 := by have := HN.out; have := HL.out; simp; omega
   obtain ⟨ad9, had9⟩ : ∃ a9, (if c3v = 64 then ad else ad.add 64) = a9 := ⟨_, rfl⟩
   rw [had9] at hcut hbv
   clear had9
   have HBV := Aside0.mk hbv
   have HL9 := Aside0.mk hl9
   have hgr : W2.grownBy w7 (some hb) := by
    have g1 := HGR.out.trans (grownBy_less HZ2.out)
    have h1 : W2.heap.size ≤ wb := by rw [← HWB.out]; exact HGR.out.size
    have g2 := grownBy_over g1 HG4.out h1
    have g3 := g2.trans (grownBy_less HG5.out)
    have g4 := grownBy_over g3 HG6.out (by have := HWVB.out; omega)
    exact g4.trans HG7.out
   have HGR7 := Aside0.mk hgr
   clear hgr hbv hl9
   go_wp2
   go_roundg k1
   case measure => omega
   case rel => exact ⟨⟨_, _, by simp [addH], HL9.out, by rw [← HSUM.out]; rfl, HR7.out, HBV.out⟩, HGR7⟩
end Go.Proofs.YtagdiodhdnebaaaDoor.P
