/- impl.sha256Of: the walk, in parts (printed by wip/log/gen_sha.py). -/
import Derived.Test.YtagdiodhdnebaaaDoorShaW
set_option linter.unusedVariables false
set_option linter.unusedSimpArgs false
namespace Go.Proofs.YtagdiodhdnebaaaDoor.P
open Go.RowKit Go.Proofs.YtagdiodhdnebaaaDoorW.PrintWords Go.Proofs.YtagdiodhdnebaaaDoorW.PrintLast Go.Proofs.YtagdiodhdnebaaaDoorW.PrintMore

/-- What a round of the 64 reads. -/
structure VF (w : World) (vb wb K : Nat) (v0 v1 v2 v3 v4 v5 v6 v7 wK cK : Int) : Prop where
  e0 : w.cell? ⟨vb, 0, none⟩ = some (.int .u32 v0)
  f0 : w.frozen? ⟨vb, 0, none⟩ = false
  e1 : w.cell? ⟨vb, 1, none⟩ = some (.int .u32 v1)
  f1 : w.frozen? ⟨vb, 1, none⟩ = false
  e2 : w.cell? ⟨vb, 2, none⟩ = some (.int .u32 v2)
  f2 : w.frozen? ⟨vb, 2, none⟩ = false
  e3 : w.cell? ⟨vb, 3, none⟩ = some (.int .u32 v3)
  f3 : w.frozen? ⟨vb, 3, none⟩ = false
  e4 : w.cell? ⟨vb, 4, none⟩ = some (.int .u32 v4)
  f4 : w.frozen? ⟨vb, 4, none⟩ = false
  e5 : w.cell? ⟨vb, 5, none⟩ = some (.int .u32 v5)
  f5 : w.frozen? ⟨vb, 5, none⟩ = false
  e6 : w.cell? ⟨vb, 6, none⟩ = some (.int .u32 v6)
  f6 : w.frozen? ⟨vb, 6, none⟩ = false
  e7 : w.cell? ⟨vb, 7, none⟩ = some (.int .u32 v7)
  f7 : w.frozen? ⟨vb, 7, none⟩ = false
  ew : w.cell? ⟨wb, K, none⟩ = some (.int .u32 wK)
  ec : w.cell? ⟨0, K, none⟩ = some (.int .u32 cK)
theorem VF.drewN {w : World} {vb wb K : Nat} {v0 v1 v2 v3 v4 v5 v6 v7 wK cK : Int} (h : VF w vb wb K v0 v1 v2 v3 v4 v5 v6 v7 wK cK) (n : Nat) : VF (w.drewN n) vb wb K v0 v1 v2 v3 v4 v5 v6 v7 wK cK :=
  ⟨h.e0, h.f0, h.e1, h.f1, h.e2, h.f2, h.e3, h.f3, h.e4, h.f4, h.e5, h.f5, h.e6, h.f6, h.e7, h.f7, h.ew, h.ec⟩
theorem VF.mk' {w : World} {vb wb K : Nat} {v0 v1 v2 v3 v4 v5 v6 v7 : Int} {ws : List Int} (hv : Row32 w vb 76 [v0, v1, v2, v3, v4, v5, v6, v7]) (hw : Row32 w wb 78 ws) (hs : ∀ i, i < 64 → w.cell? ⟨0, i, none⟩ = some (.int .u32 (shaTab.getD i 0))) (hK : K < ws.length) (h64 : K < 64) :
    VF w vb wb K v0 v1 v2 v3 v4 v5 v6 v7 (ws.getD K 0) (shaTab.getD K 0) :=
  ⟨hv.cell 0 (by simp), hv.free 0, hv.cell 1 (by simp), hv.free 1, hv.cell 2 (by simp), hv.free 2, hv.cell 3 (by simp), hv.free 3, hv.cell 4 (by simp), hv.free 4, hv.cell 5 (by simp), hv.free 5, hv.cell 6 (by simp), hv.free 6, hv.cell 7 (by simp), hv.free 7, hw.cell K hK, hs K h64⟩
theorem Row32.set8 {w : World} {b : Nat} {ty : TypeId} {v0 v1 v2 v3 v4 v5 v6 v7 : Int} (h : Row32 w b ty [v0, v1, v2, v3, v4, v5, v6, v7]) (x0 x1 x2 x3 x4 x5 x6 x7 : Int) :
    Row32 (((((((((w).setCell ⟨b, 0, none⟩ (.int .u32 x0)).setCell ⟨b, 1, none⟩ (.int .u32 x1)).setCell ⟨b, 2, none⟩ (.int .u32 x2)).setCell ⟨b, 3, none⟩ (.int .u32 x3)).setCell ⟨b, 4, none⟩ (.int .u32 x4)).setCell ⟨b, 5, none⟩ (.int .u32 x5)).setCell ⟨b, 6, none⟩ (.int .u32 x6)).setCell ⟨b, 7, none⟩ (.int .u32 x7)) b ty [x0, x1, x2, x3, x4, x5, x6, x7] :=
  (((((((h.set 0 x0).set 1 x1).set 2 x2).set 3 x3).set 4 x4).set 5 x5).set 6 x6).set 7 x7
theorem grownBy_set8 (w : World) (b : Nat) (x0 x1 x2 x3 x4 x5 x6 x7 : Value) : w.grownBy (((((((((w).setCell ⟨b, 0, none⟩ x0).setCell ⟨b, 1, none⟩ x1).setCell ⟨b, 2, none⟩ x2).setCell ⟨b, 3, none⟩ x3).setCell ⟨b, 4, none⟩ x4).setCell ⟨b, 5, none⟩ x5).setCell ⟨b, 6, none⟩ x6).setCell ⟨b, 7, none⟩ x7) (some b) :=
  (((((((grownBy_setCell w b 0 x0).trans (grownBy_setCell _ b 1 x1)).trans (grownBy_setCell _ b 2 x2)).trans (grownBy_setCell _ b 3 x3)).trans (grownBy_setCell _ b 4 x4)).trans (grownBy_setCell _ b 5 x5)).trans (grownBy_setCell _ b 6 x6)).trans (grownBy_setCell _ b 7 x7)
set_option maxHeartbeats 40000000 in
set_option maxRecDepth 1000000 in
theorem vLoop {c0 c1 c2 c3 c4 c5 c6 c8 c9 c10 c12 c13 c14 c15 c16 c17 c18 c19 c20 c21 c22 c23 c24 c25 c26 c27 c28 c29 c30 c31 c32 c33 c34 c35 c36 c37 c38 c39 c40 c41 c42 c43 c44 c45 c46 c47 c48 c49 c50 c51 c52 c53 c54 c55 c56 c57 c58 c59 c60 c61 c62 c63 c64 c65 c66 c67 c68 c69 c70 c71 c72 c73 c74 c75 c76 c77 c78 c79 c80 c81 c82 c83 c84 c85 c86 c87 c88 c89 c90 c91 c92 c93 c94 c95 c96 c97 c98 c99 c100 c101 c102 c103 c104 c105 c106 c107 c108 c109 c110 c111 c112 c113 c114 c115 c116 c117 c118 c119 c120 c121 c122 c123 c124 c125 c126 c127 c128 c129 c130 c131 c132 c134 c135 c136 c137 c138 c139 c140 c141 c142 c143 c144 c145 c146 c147 c148 c149 c150 c151 c152 c153 c154 c155 c156 c157 c158 c159 c160 c161 c162 c163 c164 c165 c166 c167 c168 c169 c170 c171 c172 c173 c174 c175 c176 c177 c178 c179 c180 c181 c182 c183 c184 c185 c186 c187 c188 c189 c190 c191 c192 c193 c194 c195 c196 c197 c198 c199 c200 c201 c202 c203 c204 c205 c206 c207 c208 c209 c210 c211 c212 c213 c214 c215 c216 c217 c218 c219 c220 c221 c222 c223 c224 c225 c226 c227 c228 c229 c230 c231 c232 c233 c234 c235 c236 c237 c238 c239 c240 c241 c242 c243 c244 c245 c246 : Value} {wb vb : Nat} {ws hh0 : List Int} {W3 : World} {Q : Exit → Act → World → Prop} (hws : ws.length = 64) (hh : hh0.length = 8) (hwb : wb ≠ vb) (h0 : vb ≠ 0)
    (hw : Row32 W3 wb 78 ws) (hv : Row32 W3 vb 76 hh0) (hsha : ∀ i, i < 64 → W3.cell? ⟨0, i, none⟩ = some (.int .u32 (shaTab.getD i 0)))
    (hexit : ∀ u12 u13 u14 u15 u16 u133 u134 u135 u136 u137 u138 u139 u140 u141 u142 u143 u144 u145 u146 u147 u148 u149 u150 u151 u152 u153 u154 u155 u156 u157 u158 u159 u160 u161 u162 u163 u164 u165 u166 u167 u168 u169 u170 u171 u172 u173 u174 u175 u176 u177 u178 u179 u180 u181 u182 u183 u184 u185 u186 u187 u188 u189 u190 u191 u192 u193 u194 u195 u196 u197 u198 u199 u200 u201 u202 u203 u204 u205 u206 u207 u208 u209 u210 u211 u212 w', ((Row32 w' vb 76 (rndTo ws hh0 64) ∧ (rndTo ws hh0 64).length = 8) ∧ W3.grownBy w' (some vb)) → Q (.exit 8) ⟨List.toArray (c0 :: c1 :: c2 :: c3 :: c4 :: c5 :: c6 :: .pointer (some ⟨wb, 0, none⟩) :: c8 :: c9 :: c10 :: .pointer (some ⟨vb, 0, none⟩) :: u12 :: u13 :: u14 :: u15 :: u16 :: c17 :: c18 :: c19 :: c20 :: c21 :: c22 :: c23 :: c24 :: c25 :: c26 :: c27 :: c28 :: c29 :: c30 :: c31 :: c32 :: c33 :: c34 :: c35 :: c36 :: c37 :: c38 :: c39 :: c40 :: c41 :: c42 :: c43 :: c44 :: c45 :: c46 :: c47 :: c48 :: c49 :: c50 :: c51 :: c52 :: c53 :: c54 :: c55 :: c56 :: c57 :: c58 :: c59 :: c60 :: c61 :: c62 :: c63 :: c64 :: c65 :: c66 :: c67 :: c68 :: c69 :: c70 :: c71 :: c72 :: c73 :: c74 :: c75 :: c76 :: c77 :: c78 :: c79 :: c80 :: c81 :: c82 :: c83 :: c84 :: c85 :: c86 :: c87 :: c88 :: c89 :: c90 :: c91 :: c92 :: c93 :: c94 :: c95 :: c96 :: c97 :: c98 :: c99 :: c100 :: c101 :: c102 :: c103 :: c104 :: c105 :: c106 :: c107 :: c108 :: c109 :: c110 :: c111 :: c112 :: c113 :: c114 :: c115 :: c116 :: c117 :: c118 :: c119 :: c120 :: c121 :: c122 :: c123 :: c124 :: c125 :: c126 :: c127 :: c128 :: c129 :: c130 :: c131 :: c132 :: u133 :: u134 :: u135 :: u136 :: u137 :: u138 :: u139 :: u140 :: u141 :: u142 :: u143 :: u144 :: u145 :: u146 :: u147 :: u148 :: u149 :: u150 :: u151 :: u152 :: u153 :: u154 :: u155 :: u156 :: u157 :: u158 :: u159 :: u160 :: u161 :: u162 :: u163 :: u164 :: u165 :: u166 :: u167 :: u168 :: u169 :: u170 :: u171 :: u172 :: u173 :: u174 :: u175 :: u176 :: u177 :: u178 :: u179 :: u180 :: u181 :: u182 :: u183 :: u184 :: u185 :: u186 :: u187 :: u188 :: u189 :: u190 :: u191 :: u192 :: u193 :: u194 :: u195 :: u196 :: u197 :: u198 :: u199 :: u200 :: u201 :: u202 :: u203 :: u204 :: u205 :: u206 :: u207 :: u208 :: u209 :: u210 :: u211 :: u212 :: c213 :: c214 :: c215 :: c216 :: c217 :: c218 :: c219 :: c220 :: c221 :: c222 :: c223 :: c224 :: c225 :: c226 :: c227 :: c228 :: c229 :: c230 :: c231 :: c232 :: c233 :: c234 :: c235 :: c236 :: c237 :: c238 :: c239 :: c240 :: c241 :: c242 :: c243 :: c244 :: c245 :: c246 :: []), []⟩ w') :
    (Code.loop vRound).wp Tryd.prog Q ⟨List.toArray (c0 :: c1 :: c2 :: c3 :: c4 :: c5 :: c6 :: .pointer (some ⟨wb, 0, none⟩) :: c8 :: c9 :: c10 :: .pointer (some ⟨vb, 0, none⟩) :: c12 :: c13 :: c14 :: c15 :: c16 :: c17 :: c18 :: c19 :: c20 :: c21 :: c22 :: c23 :: c24 :: c25 :: c26 :: c27 :: c28 :: c29 :: c30 :: c31 :: c32 :: c33 :: c34 :: c35 :: c36 :: c37 :: c38 :: c39 :: c40 :: c41 :: c42 :: c43 :: c44 :: c45 :: c46 :: c47 :: c48 :: c49 :: c50 :: c51 :: c52 :: c53 :: c54 :: c55 :: c56 :: c57 :: c58 :: c59 :: c60 :: c61 :: c62 :: c63 :: c64 :: c65 :: c66 :: c67 :: c68 :: c69 :: c70 :: c71 :: c72 :: c73 :: c74 :: c75 :: c76 :: c77 :: c78 :: c79 :: c80 :: c81 :: c82 :: c83 :: c84 :: c85 :: c86 :: c87 :: c88 :: c89 :: c90 :: c91 :: c92 :: c93 :: c94 :: c95 :: c96 :: c97 :: c98 :: c99 :: c100 :: c101 :: c102 :: c103 :: c104 :: c105 :: c106 :: c107 :: c108 :: c109 :: c110 :: c111 :: c112 :: c113 :: c114 :: c115 :: c116 :: c117 :: c118 :: c119 :: c120 :: c121 :: c122 :: c123 :: c124 :: c125 :: c126 :: c127 :: c128 :: c129 :: c130 :: c131 :: c132 :: .int .i64 0 :: c134 :: c135 :: c136 :: c137 :: c138 :: c139 :: c140 :: c141 :: c142 :: c143 :: c144 :: c145 :: c146 :: c147 :: c148 :: c149 :: c150 :: c151 :: c152 :: c153 :: c154 :: c155 :: c156 :: c157 :: c158 :: c159 :: c160 :: c161 :: c162 :: c163 :: c164 :: c165 :: c166 :: c167 :: c168 :: c169 :: c170 :: c171 :: c172 :: c173 :: c174 :: c175 :: c176 :: c177 :: c178 :: c179 :: c180 :: c181 :: c182 :: c183 :: c184 :: c185 :: c186 :: c187 :: c188 :: c189 :: c190 :: c191 :: c192 :: c193 :: c194 :: c195 :: c196 :: c197 :: c198 :: c199 :: c200 :: c201 :: c202 :: c203 :: c204 :: c205 :: c206 :: c207 :: c208 :: c209 :: c210 :: c211 :: c212 :: c213 :: c214 :: c215 :: c216 :: c217 :: c218 :: c219 :: c220 :: c221 :: c222 :: c223 :: c224 :: c225 :: c226 :: c227 :: c228 :: c229 :: c230 :: c231 :: c232 :: c233 :: c234 :: c235 :: c236 :: c237 :: c238 :: c239 :: c240 :: c241 :: c242 :: c243 :: c244 :: c245 :: c246 :: []), []⟩ W3 := by
 conv => arg 2; arg 1; whnf
 have HWS := Aside0.mk hws
 have HWB := Aside0.mk hwb
 have H0 := Aside0.mk h0
 have HW := Aside0.mk hw
 have HSH := Aside0.mk hsha
 have HR0 := Aside0.mk (⟨hh0, hh, hv, rfl⟩ : ∃ v, v.length = 8 ∧ Row32 W3 vb 76 v ∧ v = rndTo ws hh0 0)
 clear hws hwb h0 hw hv hsha hh
 go_loopg [133] 64 (fun kq v133 w' => ∃ K : Nat, v133 = .int .i64 (K : Int) ∧ Aside0 (K + kq = 64) ∧ Aside0 (∃ v, v.length = 8 ∧ Row32 w' vb 76 v ∧ v = rndTo ws hh0 K) ∧ Aside0 (W3.grownBy w' (some vb)))
 case atStart => exact ⟨0, rfl, ⟨rfl⟩, HR0, ⟨World.grownBy.refl _ _⟩⟩
 case round =>
  clear HR0
  obtain ⟨K, rfl, HK, HR, HG⟩ := hrel
  cases gk with
  | zero =>
   obtain rfl : K = 64 := by have := HK.out; omega
   go_wp2
   obtain ⟨v, h8, hr, rfl⟩ := HR.out
   exact ⟨⟨hr, h8⟩, HG.out⟩
  | succ k1 =>
   have hk := HK.out
   have l1 : decide ((K : Int) < 64) = true := by simp; omega
   have l2 : decide (K < 64) = true := by simp; omega
   have l3 : (K < 64) = True := by simp; omega
   have l4 : ((K : Int) < 64) = True := by simp; omega
   have l5 : (0 ≤ (K : Int)) = True := by simp
   have lK : wrap64 ((K : Int) + 1) = ((K + 1 : Nat) : Int) := by unfold wrap64; omega
   obtain ⟨v, h8, hr, hv⟩ := HR.out
   obtain ⟨v0, v1, v2, v3, v4, v5, v6, v7, rfl⟩ : ∃ v0 v1 v2 v3 v4 v5 v6 v7, v = [v0, v1, v2, v3, v4, v5, v6, v7] := by
    match v, h8 with
    | [v0, v1, v2, v3, v4, v5, v6, v7], _ => exact ⟨v0, v1, v2, v3, v4, v5, v6, v7, rfl⟩
   obtain ⟨wK, hwK⟩ : ∃ x, ws.getD K 0 = x := ⟨_, rfl⟩
   obtain ⟨cK, hcK⟩ : ∃ x, shaTab.getD K 0 = x := ⟨_, rfl⟩
   have hsh : ∀ i, i < 64 → wr.cell? ⟨0, i, none⟩ = some (.int .u32 (shaTab.getD i 0)) := fun i hi => (World.cell?_of_block (HG.out.block _ (World.block_lt_of_cell? W3 _ (HSH.out i hi)) (by simp; exact fun e => H0.out e.symm))).trans (HSH.out i hi)
   have hvf : VF wr vb wb K v0 v1 v2 v3 v4 v5 v6 v7 wK cK := by
    have := VF.mk' (K := K) hr (HW.out.grown HG.out (by simp; exact HWB.out)) hsh (by have := HWS.out; omega) (by omega)
    rwa [hwK, hcK] at this
   have HF := Aside0.mk hvf
   have HV := Aside0.mk hv
   have HWK := Aside0.mk hwK
   have HCK := Aside0.mk hcK
   have HROW := Aside0.mk hr
   clear HR hk h8 hr hv hwK hcK hsh hvf
   obtain ⟨e0, f0, e1, f1, e2, f2, e3, f3, e4, f4, e5, f5, e6, f6, e7, f7, ew, ec⟩ := HF.out
   go_wp2
   go_quiet (fail)
   clear e0 f0 e1 f1 e2 f2 e3 f3 e4 f4 e5 f5 e6 f6 e7 f7 ew ec
   have HF2 := Aside0.mk (HF.out.drewN nq)
   have HG2 := Aside0.mk (grownBy_drewN HG.out nq)
   have HROW2 : Aside0 (Row32 (wr.drewN nq) vb 76 [v0, v1, v2, v3, v4, v5, v6, v7]) := ⟨HROW.out⟩
   clear HF HG HROW
   generalize wr.drewN nq = wq at HF2 HG2 HROW2 ⊢
   obtain ⟨e0, f0, e1, f1, e2, f2, e3, f3, e4, f4, e5, f5, e6, f6, e7, f7, ew, ec⟩ := HF2.out
   go_wp2
   go_quiet ((go_at_call 67; refine Calls.quiet_of (rolled_calls _ _ (by decide) (by decide) _)))
   clear e0 f0 e1 f1 e2 f2 e3 f3 e4 f4 e5 f5 e6 f6 e7 f7 ew ec
   have HF3 := Aside0.mk (HF2.out.drewN nq)
   have HG3 := Aside0.mk (grownBy_drewN HG2.out nq)
   have HROW3 : Aside0 (Row32 (wq.drewN nq) vb 76 [v0, v1, v2, v3, v4, v5, v6, v7]) := ⟨HROW2.out⟩
   clear HF2 HG2 HROW2
   generalize wq.drewN nq = wz at HF3 HG3 HROW3 ⊢
   obtain ⟨e0, f0, e1, f1, e2, f2, e3, f3, e4, f4, e5, f5, e6, f6, e7, f7, ew, ec⟩ := HF3.out
   go_wp2
   go_quiet ((go_at_call 67; refine Calls.quiet_of (rolled_calls _ _ (by decide) (by decide) _)))
   clear e0 f0 e1 f1 e2 f2 e3 f3 e4 f4 e5 f5 e6 f6 e7 f7 ew ec
   have HF4 := Aside0.mk (HF3.out.drewN nq)
   have HG4 := Aside0.mk (grownBy_drewN HG3.out nq)
   have HROW4 : Aside0 (Row32 (wz.drewN nq) vb 76 [v0, v1, v2, v3, v4, v5, v6, v7]) := ⟨HROW3.out⟩
   clear HF3 HG3 HROW3
   generalize wz.drewN nq = wt at HF4 HG4 HROW4 ⊢
   obtain ⟨e0, f0, e1, f1, e2, f2, e3, f3, e4, f4, e5, f5, e6, f6, e7, f7, ew, ec⟩ := HF4.out
   go_wp2
   go_roundg k1
   case measure => omega
   case rel =>
    refine ⟨K + 1, by rw [lK], ⟨by have := HK.out; omega⟩, ⟨[_, _, _, _, _, _, _, _], rfl, HROW4.out.set8 _ _ _ _ _ _ _ _, ?_⟩, ⟨HG4.out.trans (grownBy_set8 _ _ _ _ _ _ _ _ _ _)⟩⟩
    have e : rndTo ws hh0 (K + 1) = rnd [v0, v1, v2, v3, v4, v5, v6, v7] cK wK := by rw [HV.out, ← HCK.out, ← HWK.out]; rfl
    rw [e]
    have hm : IntKind.u32.max = 4294967295 := rfl
    simp only [rnd, oneR, twoR, chB, majB, big0, big1, List.getD_cons_zero, List.getD_cons_succ, List.cons.injEq, and_true, true_and, hm]
    constructor <;> omega
end Go.Proofs.YtagdiodhdnebaaaDoor.P
