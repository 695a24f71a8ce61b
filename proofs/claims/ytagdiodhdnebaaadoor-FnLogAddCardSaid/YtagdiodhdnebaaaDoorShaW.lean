/- impl.sha256Of: the walk, in parts (printed by wip/log/gen_sha.py). -/
import Derived.Test.YtagdiodhdnebaaaDoorRo
import Derived.Test.YtagdiodhdnebaaaDoorQt
import Derived.Test.YtagdiodhdnebaaaDoorRol
import Derived.StillTailTactics
set_option linter.unusedVariables false
set_option linter.unusedSimpArgs false
namespace Go.Proofs.YtagdiodhdnebaaaDoor.P
open Go.RowKit Go.Proofs.YtagdiodhdnebaaaDoorW.PrintWords Go.Proofs.YtagdiodhdnebaaaDoorW.PrintLast Go.Proofs.YtagdiodhdnebaaaDoorW.PrintMore
def sL : Code → Code | .seq a _ => a | c => c
def sR : Code → Code | .seq _ b => b | c => c
def sB : Code → Code | .block _ c => c | c => c
def sO : Code → Code | .loop c => c | c => c
noncomputable def code60 : Code := Tryd.f60.body.getD .skip
/-- the round of the loop over the blocks -/
noncomputable def gRound : Code := sO (sB (sL (sR (sR (sR (sR (sR (sR code60))))))))
/-- what a round does, ahead of 'b = b[64:]' -/
noncomputable def gInner : Code := sB (sL (sR gRound))
noncomputable def wRound : Code := sO (sB (sR (sL (sR gInner))))
noncomputable def vRound : Code := sO (sB (sR (sL (sR (sR (sR gInner))))))
noncomputable def hRound : Code := sO (sB (sR (sR (sR (sR (sR gInner))))))
noncomputable def fRound : Code := sO (sB (sR (sL (sR (sR (sR (sR (sR (sR (sR (sR code60)))))))))))

theorem getD_of {l : List Int} {i : Nat} (h : i < l.length) : l[i]? = some (l.getD i 0) := by simp [h]
theorem wordsTo_len (b : List Int) : ∀ k, (wordsTo b k).length = k
  | 0 => rfl
  | k + 1 => by simp [wordsTo, wordsTo_len b k]
theorem words_set (b : List Int) (k m : Nat) (x : Int) (hx : x = if k < 16 then wordAt b k else nextW (wordsTo b k)) : (wordsTo b k ++ List.replicate (m + 1) 0).set k x = wordsTo b (k + 1) ++ List.replicate m 0 := by
  rw [hx]
  have := wordsTo_len b k
  simp [wordsTo, List.replicate_succ, List.set_append, this]
set_option maxHeartbeats 40000000 in
set_option maxRecDepth 1000000 in
theorem wLoop {c0 c1 c2 c3 c5 c6 c8 c9 c10 c11 c12 c13 c14 c15 c16 c17 c18 c19 c20 c21 c22 c23 c24 c25 c26 c27 c28 c29 c30 c31 c32 c33 c34 c35 c36 c37 c38 c39 c40 c41 c42 c43 c44 c45 c46 c47 c48 c49 c50 c51 c52 c53 c55 c56 c57 c58 c59 c60 c61 c62 c63 c64 c65 c66 c67 c68 c69 c70 c71 c72 c73 c74 c75 c76 c77 c78 c79 c80 c81 c82 c83 c84 c85 c86 c87 c88 c89 c90 c91 c92 c93 c94 c95 c96 c97 c98 c99 c100 c101 c102 c103 c104 c105 c106 c107 c108 c109 c110 c111 c112 c113 c114 c115 c116 c117 c118 c119 c120 c121 c122 c123 c124 c125 c126 c127 c128 c129 c130 c131 c132 c133 c134 c135 c136 c137 c138 c139 c140 c141 c142 c143 c144 c145 c146 c147 c148 c149 c150 c151 c152 c153 c154 c155 c156 c157 c158 c159 c160 c161 c162 c163 c164 c165 c166 c167 c168 c169 c170 c171 c172 c173 c174 c175 c176 c177 c178 c179 c180 c181 c182 c183 c184 c185 c186 c187 c188 c189 c190 c191 c192 c193 c194 c195 c196 c197 c198 c199 c200 c201 c202 c203 c204 c205 c206 c207 c208 c209 c210 c211 c212 c213 c214 c215 c216 c217 c218 c219 c220 c221 c222 c223 c224 c225 c226 c227 c228 c229 c230 c231 c232 c233 c234 c235 c236 c237 c238 c239 c240 c241 c242 c243 c244 c245 c246 : Value} {ad : Addr} {n c3v wb : Nat} {xs : List Int} {W3 : World} {Q : Exit → Act → World → Prop} (hn : xs.length = n) (h64 : 64 ≤ n) (hcell : ∀ j u, xs[j]? = some u → W3.cell? (ad.add j) = some (.int .u8 u)) (hne : ad.block ≠ wb)
    (hrow : Row32 W3 wb 78 (List.replicate 64 0))
    (hexit : ∀ u8 u9 u10 u54 u55 u56 u57 u58 u59 u60 u61 u62 u63 u64 u65 u66 u67 u68 u69 u70 u71 u72 u73 u74 u75 u76 u77 u78 u79 u80 u81 u82 u83 u84 u85 u86 u87 u88 u89 u90 u91 u92 u93 u94 u95 u96 u97 u98 u99 u100 u101 u102 u103 u104 u105 u106 u107 u108 u109 u110 u111 u112 u113 u114 u115 u116 u117 u118 u119 u120 u121 u122 u123 u124 u125 u126 u127 u128 u129 u130 u131 w', (Row32 w' wb 78 (wordsTo (xs.take 64) 64) ∧ W3.grownBy w' (some wb)) → Q (.exit 6) ⟨List.toArray (c0 :: c1 :: c2 :: c3 :: .slice (some ad) n c3v :: c5 :: c6 :: .pointer (some ⟨wb, 0, none⟩) :: u8 :: u9 :: u10 :: c11 :: c12 :: c13 :: c14 :: c15 :: c16 :: c17 :: c18 :: c19 :: c20 :: c21 :: c22 :: c23 :: c24 :: c25 :: c26 :: c27 :: c28 :: c29 :: c30 :: c31 :: c32 :: c33 :: c34 :: c35 :: c36 :: c37 :: c38 :: c39 :: c40 :: c41 :: c42 :: c43 :: c44 :: c45 :: c46 :: c47 :: c48 :: c49 :: c50 :: c51 :: c52 :: c53 :: u54 :: u55 :: u56 :: u57 :: u58 :: u59 :: u60 :: u61 :: u62 :: u63 :: u64 :: u65 :: u66 :: u67 :: u68 :: u69 :: u70 :: u71 :: u72 :: u73 :: u74 :: u75 :: u76 :: u77 :: u78 :: u79 :: u80 :: u81 :: u82 :: u83 :: u84 :: u85 :: u86 :: u87 :: u88 :: u89 :: u90 :: u91 :: u92 :: u93 :: u94 :: u95 :: u96 :: u97 :: u98 :: u99 :: u100 :: u101 :: u102 :: u103 :: u104 :: u105 :: u106 :: u107 :: u108 :: u109 :: u110 :: u111 :: u112 :: u113 :: u114 :: u115 :: u116 :: u117 :: u118 :: u119 :: u120 :: u121 :: u122 :: u123 :: u124 :: u125 :: u126 :: u127 :: u128 :: u129 :: u130 :: u131 :: c132 :: c133 :: c134 :: c135 :: c136 :: c137 :: c138 :: c139 :: c140 :: c141 :: c142 :: c143 :: c144 :: c145 :: c146 :: c147 :: c148 :: c149 :: c150 :: c151 :: c152 :: c153 :: c154 :: c155 :: c156 :: c157 :: c158 :: c159 :: c160 :: c161 :: c162 :: c163 :: c164 :: c165 :: c166 :: c167 :: c168 :: c169 :: c170 :: c171 :: c172 :: c173 :: c174 :: c175 :: c176 :: c177 :: c178 :: c179 :: c180 :: c181 :: c182 :: c183 :: c184 :: c185 :: c186 :: c187 :: c188 :: c189 :: c190 :: c191 :: c192 :: c193 :: c194 :: c195 :: c196 :: c197 :: c198 :: c199 :: c200 :: c201 :: c202 :: c203 :: c204 :: c205 :: c206 :: c207 :: c208 :: c209 :: c210 :: c211 :: c212 :: c213 :: c214 :: c215 :: c216 :: c217 :: c218 :: c219 :: c220 :: c221 :: c222 :: c223 :: c224 :: c225 :: c226 :: c227 :: c228 :: c229 :: c230 :: c231 :: c232 :: c233 :: c234 :: c235 :: c236 :: c237 :: c238 :: c239 :: c240 :: c241 :: c242 :: c243 :: c244 :: c245 :: c246 :: []), []⟩ w') :
    (Code.loop wRound).wp Tryd.prog Q ⟨List.toArray (c0 :: c1 :: c2 :: c3 :: .slice (some ad) n c3v :: c5 :: c6 :: .pointer (some ⟨wb, 0, none⟩) :: c8 :: c9 :: c10 :: c11 :: c12 :: c13 :: c14 :: c15 :: c16 :: c17 :: c18 :: c19 :: c20 :: c21 :: c22 :: c23 :: c24 :: c25 :: c26 :: c27 :: c28 :: c29 :: c30 :: c31 :: c32 :: c33 :: c34 :: c35 :: c36 :: c37 :: c38 :: c39 :: c40 :: c41 :: c42 :: c43 :: c44 :: c45 :: c46 :: c47 :: c48 :: c49 :: c50 :: c51 :: c52 :: c53 :: .int .i64 0 :: c55 :: c56 :: c57 :: c58 :: c59 :: c60 :: c61 :: c62 :: c63 :: c64 :: c65 :: c66 :: c67 :: c68 :: c69 :: c70 :: c71 :: c72 :: c73 :: c74 :: c75 :: c76 :: c77 :: c78 :: c79 :: c80 :: c81 :: c82 :: c83 :: c84 :: c85 :: c86 :: c87 :: c88 :: c89 :: c90 :: c91 :: c92 :: c93 :: c94 :: c95 :: c96 :: c97 :: c98 :: c99 :: c100 :: c101 :: c102 :: c103 :: c104 :: c105 :: c106 :: c107 :: c108 :: c109 :: c110 :: c111 :: c112 :: c113 :: c114 :: c115 :: c116 :: c117 :: c118 :: c119 :: c120 :: c121 :: c122 :: c123 :: c124 :: c125 :: c126 :: c127 :: c128 :: c129 :: c130 :: c131 :: c132 :: c133 :: c134 :: c135 :: c136 :: c137 :: c138 :: c139 :: c140 :: c141 :: c142 :: c143 :: c144 :: c145 :: c146 :: c147 :: c148 :: c149 :: c150 :: c151 :: c152 :: c153 :: c154 :: c155 :: c156 :: c157 :: c158 :: c159 :: c160 :: c161 :: c162 :: c163 :: c164 :: c165 :: c166 :: c167 :: c168 :: c169 :: c170 :: c171 :: c172 :: c173 :: c174 :: c175 :: c176 :: c177 :: c178 :: c179 :: c180 :: c181 :: c182 :: c183 :: c184 :: c185 :: c186 :: c187 :: c188 :: c189 :: c190 :: c191 :: c192 :: c193 :: c194 :: c195 :: c196 :: c197 :: c198 :: c199 :: c200 :: c201 :: c202 :: c203 :: c204 :: c205 :: c206 :: c207 :: c208 :: c209 :: c210 :: c211 :: c212 :: c213 :: c214 :: c215 :: c216 :: c217 :: c218 :: c219 :: c220 :: c221 :: c222 :: c223 :: c224 :: c225 :: c226 :: c227 :: c228 :: c229 :: c230 :: c231 :: c232 :: c233 :: c234 :: c235 :: c236 :: c237 :: c238 :: c239 :: c240 :: c241 :: c242 :: c243 :: c244 :: c245 :: c246 :: []), []⟩ W3 := by
 conv => arg 2; arg 1; whnf
 have HN := Aside0.mk hn
 have H64 := Aside0.mk h64
 have HCELL := Aside0.mk hcell
 have HNE := Aside0.mk hne
 have HROW := Aside0.mk hrow
 clear hn h64 hcell hne hrow
 go_loopg [54] 64 (fun kq v54 w' => ∃ K : Nat, v54 = .int .i64 (K : Int) ∧ Aside0 (K + kq = 64) ∧ Aside0 (Row32 w' wb 78 (wordsTo (xs.take 64) K ++ List.replicate kq 0)) ∧ Aside0 (W3.grownBy w' (some wb)))
 case atStart => exact ⟨0, rfl, ⟨rfl⟩, ⟨HROW.out⟩, ⟨World.grownBy.refl _ _⟩⟩
 case round =>
  clear HROW
  obtain ⟨K, rfl, HK, HROW, HG⟩ := hrel
  cases gk with
  | zero =>
   obtain rfl : K = 64 := by have := HK.out; omega
   go_wp2
   exact ⟨by simpa using HROW.out, HG.out⟩
  | succ k1 =>
   have hk := HK.out
   have l1 : decide ((K : Int) < 64) = true := by simp; omega
   have l2 : decide (K < 64) = true := by simp; omega
   have l3 : (K < 64) = True := by simp; omega
   have l4 : ((K : Int) < 64) = True := by simp; omega
   have l5 : (0 ≤ (K : Int)) = True := by simp
   have hlen : (wordsTo (xs.take 64) K ++ List.replicate (k1 + 1) 0).length = 64 := by simp [wordsTo_len]; omega
   have HLEN := Aside0.mk hlen
   have g1 : wr.frozen? ⟨wb, K, none⟩ = false := HROW.out.free K
   have g2 : wr.cell? ⟨wb, K, none⟩ = some (.int .u32 ((wordsTo (xs.take 64) K ++ List.replicate (k1 + 1) 0).getD K 0)) := HROW.out.cell K (by omega)
   have lK : wrap64 ((K : Int) + 1) = ((K + 1 : Nat) : Int) := by unfold wrap64; omega
   clear hk hlen
   by_cases hlt : K < 16
   · have HLT := Aside0.mk hlt
     have m1 : decide ((K : Int) < 16) = true := by simp; omega
     have m2 : decide (K < 16) = true := by simp; omega
     have m3 : (K < 16) = True := by simp; omega
     have m4 : ((K : Int) < 16) = True := by simp; omega
     clear hlt
     obtain ⟨y0, ey0⟩ : ∃ y : Int, wrap64 (4 * (K : Int)) = y := ⟨_, rfl⟩
     have EY0 : Aside0 (y0 = 4 * (K : Int) + 0) := ⟨by rw [← ey0]; unfold wrap64; have := HLT.out; omega⟩
     have fy0 : (IntKind.i64.wrap (4 * (K : Int))) = y0 := (i64_w _).trans ey0
     have p0 : (0 ≤ y0) = True := by have := EY0.out; simp; omega
     have q0 : (y0 < (n : Int)) = True := by have := EY0.out; have := H64.out; have := HLT.out; simp; omega
     have b0 : wr.cell? (ad.add y0.toNat) = some (.int .u8 ((xs.take 64).getD (4 * K + 0) 0)) := by
      have e1 : y0.toNat = 4 * K + 0 := by have := EY0.out; omega
      have hl : 4 * K + 0 < (xs.take 64).length := by have := HN.out; have := H64.out; have := HLT.out; simp; omega
      have h1 := HCELL.out (4 * K + 0) _ (by have h2 := getD_of hl; rw [List.getElem?_take] at h2; split at h2; exact h2; cases h2)
      rw [e1]
      refine (World.cell?_of_block (HG.out.block _ (World.block_lt_of_cell? W3 _ h1) ?_)).trans h1
      have e2 : (ad.add (4 * K + 0)).block = ad.block := by unfold Addr.add; split <;> rfl
      rw [e2]
      exact fun e => HNE.out (Option.some.inj e)
     obtain ⟨y1, ey1⟩ : ∃ y : Int, wrap64 (y0 + 1) = y := ⟨_, rfl⟩
     have EY1 : Aside0 (y1 = 4 * (K : Int) + 1) := ⟨by rw [← ey1]; unfold wrap64; have := EY0.out; have := HLT.out; omega⟩
     have fy1 : (IntKind.i64.wrap (y0 + 1)) = y1 := (i64_w _).trans ey1
     have p1 : (0 ≤ y1) = True := by have := EY1.out; simp; omega
     have q1 : (y1 < (n : Int)) = True := by have := EY1.out; have := H64.out; have := HLT.out; simp; omega
     have b1 : wr.cell? (ad.add y1.toNat) = some (.int .u8 ((xs.take 64).getD (4 * K + 1) 0)) := by
      have e1 : y1.toNat = 4 * K + 1 := by have := EY1.out; omega
      have hl : 4 * K + 1 < (xs.take 64).length := by have := HN.out; have := H64.out; have := HLT.out; simp; omega
      have h1 := HCELL.out (4 * K + 1) _ (by have h2 := getD_of hl; rw [List.getElem?_take] at h2; split at h2; exact h2; cases h2)
      rw [e1]
      refine (World.cell?_of_block (HG.out.block _ (World.block_lt_of_cell? W3 _ h1) ?_)).trans h1
      have e2 : (ad.add (4 * K + 1)).block = ad.block := by unfold Addr.add; split <;> rfl
      rw [e2]
      exact fun e => HNE.out (Option.some.inj e)
     obtain ⟨y2, ey2⟩ : ∃ y : Int, wrap64 (y0 + 2) = y := ⟨_, rfl⟩
     have EY2 : Aside0 (y2 = 4 * (K : Int) + 2) := ⟨by rw [← ey2]; unfold wrap64; have := EY0.out; have := HLT.out; omega⟩
     have fy2 : (IntKind.i64.wrap (y0 + 2)) = y2 := (i64_w _).trans ey2
     have p2 : (0 ≤ y2) = True := by have := EY2.out; simp; omega
     have q2 : (y2 < (n : Int)) = True := by have := EY2.out; have := H64.out; have := HLT.out; simp; omega
     have b2 : wr.cell? (ad.add y2.toNat) = some (.int .u8 ((xs.take 64).getD (4 * K + 2) 0)) := by
      have e1 : y2.toNat = 4 * K + 2 := by have := EY2.out; omega
      have hl : 4 * K + 2 < (xs.take 64).length := by have := HN.out; have := H64.out; have := HLT.out; simp; omega
      have h1 := HCELL.out (4 * K + 2) _ (by have h2 := getD_of hl; rw [List.getElem?_take] at h2; split at h2; exact h2; cases h2)
      rw [e1]
      refine (World.cell?_of_block (HG.out.block _ (World.block_lt_of_cell? W3 _ h1) ?_)).trans h1
      have e2 : (ad.add (4 * K + 2)).block = ad.block := by unfold Addr.add; split <;> rfl
      rw [e2]
      exact fun e => HNE.out (Option.some.inj e)
     obtain ⟨y3, ey3⟩ : ∃ y : Int, wrap64 (y0 + 3) = y := ⟨_, rfl⟩
     have EY3 : Aside0 (y3 = 4 * (K : Int) + 3) := ⟨by rw [← ey3]; unfold wrap64; have := EY0.out; have := HLT.out; omega⟩
     have fy3 : (IntKind.i64.wrap (y0 + 3)) = y3 := (i64_w _).trans ey3
     have p3 : (0 ≤ y3) = True := by have := EY3.out; simp; omega
     have q3 : (y3 < (n : Int)) = True := by have := EY3.out; have := H64.out; have := HLT.out; simp; omega
     have b3 : wr.cell? (ad.add y3.toNat) = some (.int .u8 ((xs.take 64).getD (4 * K + 3) 0)) := by
      have e1 : y3.toNat = 4 * K + 3 := by have := EY3.out; omega
      have hl : 4 * K + 3 < (xs.take 64).length := by have := HN.out; have := H64.out; have := HLT.out; simp; omega
      have h1 := HCELL.out (4 * K + 3) _ (by have h2 := getD_of hl; rw [List.getElem?_take] at h2; split at h2; exact h2; cases h2)
      rw [e1]
      refine (World.cell?_of_block (HG.out.block _ (World.block_lt_of_cell? W3 _ h1) ?_)).trans h1
      have e2 : (ad.add (4 * K + 3)).block = ad.block := by unfold Addr.add; split <;> rfl
      rw [e2]
      exact fun e => HNE.out (Option.some.inj e)
     go_wp2
     go_still_tail 35, (by kernel_rfl)
     go_wp2
     go_roundg k1
     case measure => omega
     case rel =>
      refine ⟨K + 1, by rw [lK], ⟨by have := HK.out; omega⟩, ⟨?_⟩, ⟨grownBy_drewN (HG.out.trans (grownBy_setCell wr wb K _)) 1⟩⟩
      have h1 := fun x hx => (words_set (xs.take 64) K k1 x hx) ▸ HROW.out.set K x
      exact h1 _ (by rw [if_pos HLT.out]; simp [wordAt])
   · have HLT := Aside0.mk hlt
     have m1 : decide ((K : Int) < 16) = false := by simp; omega
     have m2 : decide (K < 16) = false := by simp; omega
     have m3 : (K < 16) = False := by simp; omega
     have m4 : ((K : Int) < 16) = False := by simp; omega
     clear hlt
     obtain ⟨y15, ey15⟩ : ∃ y : Int, wrap64 ((K : Int) - 15) = y := ⟨_, rfl⟩
     have EY15 : Aside0 (y15 = (K : Int) - 15) := ⟨by rw [← ey15]; unfold wrap64; have := HLT.out; have := HK.out; omega⟩
     have fy15 : (IntKind.i64.wrap ((K : Int) - 15)) = y15 := (i64_w _).trans ey15
     have p15 : (0 ≤ y15) = True := by have := EY15.out; have := HLT.out; simp; omega
     have q15 : (y15 < 64) = True := by have := EY15.out; have := HK.out; simp; omega
     have r15 : decide (y15 < 64) = true := by have := EY15.out; have := HK.out; simp; omega
     obtain ⟨x15, ex15⟩ : ∃ x : Int, (wordsTo (xs.take 64) K).getD (K - 15) 0 = x := ⟨_, rfl⟩
     have b15 : wr.cell? ⟨wb, y15.toNat, none⟩ = some (.int .u32 x15) := by
      have e1 : y15.toNat = K - 15 := by have := EY15.out; have := HLT.out; omega
      have h1 := HROW.out.cell (K - 15) (by have := HLEN.out; have := HK.out; omega)
      rw [e1, h1, ← ex15]
      have := wordsTo_len (xs.take 64) K
      simp [List.getD_eq_getElem?_getD, List.getElem?_append, this, show K - 15 < K by have := HLT.out; omega]
     have EX15 := Aside0.mk ex15
     clear ex15
     obtain ⟨y2, ey2⟩ : ∃ y : Int, wrap64 ((K : Int) - 2) = y := ⟨_, rfl⟩
     have EY2 : Aside0 (y2 = (K : Int) - 2) := ⟨by rw [← ey2]; unfold wrap64; have := HLT.out; have := HK.out; omega⟩
     have fy2 : (IntKind.i64.wrap ((K : Int) - 2)) = y2 := (i64_w _).trans ey2
     have p2 : (0 ≤ y2) = True := by have := EY2.out; have := HLT.out; simp; omega
     have q2 : (y2 < 64) = True := by have := EY2.out; have := HK.out; simp; omega
     have r2 : decide (y2 < 64) = true := by have := EY2.out; have := HK.out; simp; omega
     obtain ⟨x2, ex2⟩ : ∃ x : Int, (wordsTo (xs.take 64) K).getD (K - 2) 0 = x := ⟨_, rfl⟩
     have b2 : wr.cell? ⟨wb, y2.toNat, none⟩ = some (.int .u32 x2) := by
      have e1 : y2.toNat = K - 2 := by have := EY2.out; have := HLT.out; omega
      have h1 := HROW.out.cell (K - 2) (by have := HLEN.out; have := HK.out; omega)
      rw [e1, h1, ← ex2]
      have := wordsTo_len (xs.take 64) K
      simp [List.getD_eq_getElem?_getD, List.getElem?_append, this, show K - 2 < K by have := HLT.out; omega]
     have EX2 := Aside0.mk ex2
     clear ex2
     obtain ⟨y16, ey16⟩ : ∃ y : Int, wrap64 ((K : Int) - 16) = y := ⟨_, rfl⟩
     have EY16 : Aside0 (y16 = (K : Int) - 16) := ⟨by rw [← ey16]; unfold wrap64; have := HLT.out; have := HK.out; omega⟩
     have fy16 : (IntKind.i64.wrap ((K : Int) - 16)) = y16 := (i64_w _).trans ey16
     have p16 : (0 ≤ y16) = True := by have := EY16.out; have := HLT.out; simp; omega
     have q16 : (y16 < 64) = True := by have := EY16.out; have := HK.out; simp; omega
     have r16 : decide (y16 < 64) = true := by have := EY16.out; have := HK.out; simp; omega
     obtain ⟨x16, ex16⟩ : ∃ x : Int, (wordsTo (xs.take 64) K).getD (K - 16) 0 = x := ⟨_, rfl⟩
     have b16 : wr.cell? ⟨wb, y16.toNat, none⟩ = some (.int .u32 x16) := by
      have e1 : y16.toNat = K - 16 := by have := EY16.out; have := HLT.out; omega
      have h1 := HROW.out.cell (K - 16) (by have := HLEN.out; have := HK.out; omega)
      rw [e1, h1, ← ex16]
      have := wordsTo_len (xs.take 64) K
      simp [List.getD_eq_getElem?_getD, List.getElem?_append, this, show K - 16 < K by have := HLT.out; omega]
     have EX16 := Aside0.mk ex16
     clear ex16
     obtain ⟨y7, ey7⟩ : ∃ y : Int, wrap64 ((K : Int) - 7) = y := ⟨_, rfl⟩
     have EY7 : Aside0 (y7 = (K : Int) - 7) := ⟨by rw [← ey7]; unfold wrap64; have := HLT.out; have := HK.out; omega⟩
     have fy7 : (IntKind.i64.wrap ((K : Int) - 7)) = y7 := (i64_w _).trans ey7
     have p7 : (0 ≤ y7) = True := by have := EY7.out; have := HLT.out; simp; omega
     have q7 : (y7 < 64) = True := by have := EY7.out; have := HK.out; simp; omega
     have r7 : decide (y7 < 64) = true := by have := EY7.out; have := HK.out; simp; omega
     obtain ⟨x7, ex7⟩ : ∃ x : Int, (wordsTo (xs.take 64) K).getD (K - 7) 0 = x := ⟨_, rfl⟩
     have b7 : wr.cell? ⟨wb, y7.toNat, none⟩ = some (.int .u32 x7) := by
      have e1 : y7.toNat = K - 7 := by have := EY7.out; have := HLT.out; omega
      have h1 := HROW.out.cell (K - 7) (by have := HLEN.out; have := HK.out; omega)
      rw [e1, h1, ← ex7]
      have := wordsTo_len (xs.take 64) K
      simp [List.getD_eq_getElem?_getD, List.getElem?_append, this, show K - 7 < K by have := HLT.out; omega]
     have EX7 := Aside0.mk ex7
     clear ex7
     go_wp2
     go_quiet (fail)
     have HROW2 : Aside0 (Row32 (wr.drewN nq) wb 78 (wordsTo (xs.take 64) K ++ List.replicate (k1 + 1) 0)) := ⟨HROW.out⟩
     have HG2 : Aside0 (W3.grownBy (wr.drewN nq) (some wb)) := ⟨grownBy_drewN HG.out nq⟩
     replace b16 : (wr.drewN nq).cell? ⟨wb, y16.toNat, none⟩ = some (.int .u32 x16) := b16
     replace b7 : (wr.drewN nq).cell? ⟨wb, y7.toNat, none⟩ = some (.int .u32 x7) := b7
     replace g1 : (wr.drewN nq).frozen? ⟨wb, K, none⟩ = false := g1
     replace g2 : (wr.drewN nq).cell? ⟨wb, K, none⟩ = some (.int .u32 ((wordsTo (xs.take 64) K ++ List.replicate (k1 + 1) 0).getD K 0)) := g2
     clear HROW HG b15 b2
     generalize wr.drewN nq = wq at HROW2 HG2 b16 b7 g1 g2 ⊢
     go_wp2
     (refine Go.Proofs.YtagdiodhdnebaaaDoor.Qt.region 29 (by kernel_rfl) (by kernel_rfl) ?_; simp only [List.take_succ_cons, List.take_zero, List.drop_succ_cons, List.drop_zero]; (repeat (quiet_step ((go_at_call 67; refine Calls.quiet_of (rolled_calls _ _ (by decide) (by decide) _))))); refine wpQuiet_nil ?_; intro _ hw'; obtain ⟨nq, hw''⟩ := hw'; subst hw'')
     go_wp2
     go_roundg k1
     case measure => omega
     case rel =>
      refine ⟨K + 1, by rw [lK], ⟨by have := HK.out; omega⟩, ⟨?_⟩, ⟨(grownBy_drewN HG2.out nq).trans (grownBy_setCell (wq.drewN nq) wb K _)⟩⟩
      have h0 : Row32 (wq.drewN nq) wb 78 (wordsTo (xs.take 64) K ++ List.replicate (k1 + 1) 0) := HROW2.out
      have h1 := fun x hx => (words_set (xs.take 64) K k1 x hx) ▸ h0.set K x
      refine h1 _ ?_
      rw [if_neg HLT.out]
      have hl := wordsTo_len (xs.take 64) K
      unfold nextW sig0 sig1
      rw [hl, EX15.out, EX2.out, EX16.out, EX7.out]
      omega
end Go.Proofs.YtagdiodhdnebaaaDoor.P
