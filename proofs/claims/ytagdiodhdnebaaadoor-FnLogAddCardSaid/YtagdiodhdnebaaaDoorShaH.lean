/- impl.sha256Of: the walk, in parts (printed by wip/log/gen_sha.py). -/
import Derived.Test.YtagdiodhdnebaaaDoorShaW
import Derived.StillTailTactics
set_option linter.unusedVariables false
set_option linter.unusedSimpArgs false
namespace Go.Proofs.YtagdiodhdnebaaaDoor.P
open Go.RowKit Go.Proofs.YtagdiodhdnebaaaDoorW.PrintWords Go.Proofs.YtagdiodhdnebaaaDoorW.PrintLast Go.Proofs.YtagdiodhdnebaaaDoorW.PrintMore

def addTo (h v : List Int) (k : Nat) : List Int := (List.range k).map (fun i => (h.getD i 0 + v.getD i 0) % 4294967296) ++ h.drop k
theorem addTo_len {h v : List Int} {k : Nat} (hk : k ≤ h.length) : (addTo h v k).length = h.length := by simp [addTo]; omega
theorem addTo_get {h v : List Int} {k : Nat} (hk : k < h.length) : (addTo h v k).getD k 0 = h.getD k 0 := by simp [addTo, List.getD_eq_getElem?_getD, List.getElem?_append]
theorem addTo_set {h v : List Int} {k : Nat} (hk : k < h.length) : (addTo h v k).set k ((h.getD k 0 + v.getD k 0) % 4294967296) = addTo h v (k + 1) := by
  have e : h.drop k = h[k] :: h.drop (k + 1) := List.drop_eq_getElem_cons hk
  unfold addTo
  rw [List.range_succ, List.map_append, e, List.set_append_right _ _ (by simp), List.append_assoc]
  simp only [List.length_map, List.length_range, Nat.sub_self, List.set_cons_zero]
  rfl
theorem addTo_all {h v : List Int} (hh : h.length = 8) : addTo h v 8 = addH h v := by simp [addTo, addH, List.drop_eq_nil_of_le, hh]
set_option maxHeartbeats 40000000 in
set_option maxRecDepth 1000000 in
theorem hLoop {c0 c1 c2 c4 c5 c6 c7 c8 c9 c10 c12 c13 c14 c15 c16 c17 c18 c19 c20 c21 c22 c23 c24 c25 c26 c27 c28 c29 c30 c31 c32 c33 c34 c35 c36 c37 c38 c39 c40 c41 c42 c43 c44 c45 c46 c47 c48 c49 c50 c51 c52 c53 c54 c55 c56 c57 c58 c59 c60 c61 c62 c63 c64 c65 c66 c67 c68 c69 c70 c71 c72 c73 c74 c75 c76 c77 c78 c79 c80 c81 c82 c83 c84 c85 c86 c87 c88 c89 c90 c91 c92 c93 c94 c95 c96 c97 c98 c99 c100 c101 c102 c103 c104 c105 c106 c107 c108 c109 c110 c111 c112 c113 c114 c115 c116 c117 c118 c119 c120 c121 c122 c123 c124 c125 c126 c127 c128 c129 c130 c131 c132 c133 c134 c135 c136 c137 c138 c139 c140 c141 c142 c143 c144 c145 c146 c147 c148 c149 c150 c151 c152 c153 c154 c155 c156 c157 c158 c159 c160 c161 c162 c163 c164 c165 c166 c167 c168 c169 c170 c171 c172 c173 c174 c175 c176 c177 c178 c179 c180 c181 c182 c183 c184 c185 c186 c187 c188 c189 c190 c191 c192 c193 c194 c195 c196 c197 c198 c199 c200 c201 c202 c203 c204 c205 c206 c207 c208 c209 c210 c211 c212 c214 c215 c216 c217 c218 c219 c220 c221 c222 c223 c224 c225 c226 c227 c228 c229 c230 c231 c232 c233 c234 c235 c236 c237 c238 c239 c240 c241 c242 c243 c244 c245 c246 : Value} {hb vb : Nat} {hs vs : List Int} {W3 : World} {Q : Exit → Act → World → Prop} (hhs : hs.length = 8) (hvs : vs.length = 8) (hne : vb ≠ hb)
    (hh : Row32 W3 hb 76 hs) (hv : Row32 W3 vb 76 vs)
    (hexit : ∀ u17 u213 u214 u215 u216 u217 u218 u219 u220 u221 u222 u223 u224 w', (Row32 w' hb 76 (addH hs vs) ∧ W3.grownBy w' (some hb)) → Q (.exit 10) ⟨List.toArray (c0 :: c1 :: c2 :: .pointer (some ⟨hb, 0, none⟩) :: c4 :: c5 :: c6 :: c7 :: c8 :: c9 :: c10 :: .pointer (some ⟨vb, 0, none⟩) :: c12 :: c13 :: c14 :: c15 :: c16 :: u17 :: c18 :: c19 :: c20 :: c21 :: c22 :: c23 :: c24 :: c25 :: c26 :: c27 :: c28 :: c29 :: c30 :: c31 :: c32 :: c33 :: c34 :: c35 :: c36 :: c37 :: c38 :: c39 :: c40 :: c41 :: c42 :: c43 :: c44 :: c45 :: c46 :: c47 :: c48 :: c49 :: c50 :: c51 :: c52 :: c53 :: c54 :: c55 :: c56 :: c57 :: c58 :: c59 :: c60 :: c61 :: c62 :: c63 :: c64 :: c65 :: c66 :: c67 :: c68 :: c69 :: c70 :: c71 :: c72 :: c73 :: c74 :: c75 :: c76 :: c77 :: c78 :: c79 :: c80 :: c81 :: c82 :: c83 :: c84 :: c85 :: c86 :: c87 :: c88 :: c89 :: c90 :: c91 :: c92 :: c93 :: c94 :: c95 :: c96 :: c97 :: c98 :: c99 :: c100 :: c101 :: c102 :: c103 :: c104 :: c105 :: c106 :: c107 :: c108 :: c109 :: c110 :: c111 :: c112 :: c113 :: c114 :: c115 :: c116 :: c117 :: c118 :: c119 :: c120 :: c121 :: c122 :: c123 :: c124 :: c125 :: c126 :: c127 :: c128 :: c129 :: c130 :: c131 :: c132 :: c133 :: c134 :: c135 :: c136 :: c137 :: c138 :: c139 :: c140 :: c141 :: c142 :: c143 :: c144 :: c145 :: c146 :: c147 :: c148 :: c149 :: c150 :: c151 :: c152 :: c153 :: c154 :: c155 :: c156 :: c157 :: c158 :: c159 :: c160 :: c161 :: c162 :: c163 :: c164 :: c165 :: c166 :: c167 :: c168 :: c169 :: c170 :: c171 :: c172 :: c173 :: c174 :: c175 :: c176 :: c177 :: c178 :: c179 :: c180 :: c181 :: c182 :: c183 :: c184 :: c185 :: c186 :: c187 :: c188 :: c189 :: c190 :: c191 :: c192 :: c193 :: c194 :: c195 :: c196 :: c197 :: c198 :: c199 :: c200 :: c201 :: c202 :: c203 :: c204 :: c205 :: c206 :: c207 :: c208 :: c209 :: c210 :: c211 :: c212 :: u213 :: u214 :: u215 :: u216 :: u217 :: u218 :: u219 :: u220 :: u221 :: u222 :: u223 :: u224 :: c225 :: c226 :: c227 :: c228 :: c229 :: c230 :: c231 :: c232 :: c233 :: c234 :: c235 :: c236 :: c237 :: c238 :: c239 :: c240 :: c241 :: c242 :: c243 :: c244 :: c245 :: c246 :: []), []⟩ w') :
    (Code.loop hRound).wp Tryd.prog Q ⟨List.toArray (c0 :: c1 :: c2 :: .pointer (some ⟨hb, 0, none⟩) :: c4 :: c5 :: c6 :: c7 :: c8 :: c9 :: c10 :: .pointer (some ⟨vb, 0, none⟩) :: c12 :: c13 :: c14 :: c15 :: c16 :: c17 :: c18 :: c19 :: c20 :: c21 :: c22 :: c23 :: c24 :: c25 :: c26 :: c27 :: c28 :: c29 :: c30 :: c31 :: c32 :: c33 :: c34 :: c35 :: c36 :: c37 :: c38 :: c39 :: c40 :: c41 :: c42 :: c43 :: c44 :: c45 :: c46 :: c47 :: c48 :: c49 :: c50 :: c51 :: c52 :: c53 :: c54 :: c55 :: c56 :: c57 :: c58 :: c59 :: c60 :: c61 :: c62 :: c63 :: c64 :: c65 :: c66 :: c67 :: c68 :: c69 :: c70 :: c71 :: c72 :: c73 :: c74 :: c75 :: c76 :: c77 :: c78 :: c79 :: c80 :: c81 :: c82 :: c83 :: c84 :: c85 :: c86 :: c87 :: c88 :: c89 :: c90 :: c91 :: c92 :: c93 :: c94 :: c95 :: c96 :: c97 :: c98 :: c99 :: c100 :: c101 :: c102 :: c103 :: c104 :: c105 :: c106 :: c107 :: c108 :: c109 :: c110 :: c111 :: c112 :: c113 :: c114 :: c115 :: c116 :: c117 :: c118 :: c119 :: c120 :: c121 :: c122 :: c123 :: c124 :: c125 :: c126 :: c127 :: c128 :: c129 :: c130 :: c131 :: c132 :: c133 :: c134 :: c135 :: c136 :: c137 :: c138 :: c139 :: c140 :: c141 :: c142 :: c143 :: c144 :: c145 :: c146 :: c147 :: c148 :: c149 :: c150 :: c151 :: c152 :: c153 :: c154 :: c155 :: c156 :: c157 :: c158 :: c159 :: c160 :: c161 :: c162 :: c163 :: c164 :: c165 :: c166 :: c167 :: c168 :: c169 :: c170 :: c171 :: c172 :: c173 :: c174 :: c175 :: c176 :: c177 :: c178 :: c179 :: c180 :: c181 :: c182 :: c183 :: c184 :: c185 :: c186 :: c187 :: c188 :: c189 :: c190 :: c191 :: c192 :: c193 :: c194 :: c195 :: c196 :: c197 :: c198 :: c199 :: c200 :: c201 :: c202 :: c203 :: c204 :: c205 :: c206 :: c207 :: c208 :: c209 :: c210 :: c211 :: c212 :: .int .i64 0 :: c214 :: c215 :: c216 :: c217 :: c218 :: c219 :: c220 :: c221 :: c222 :: c223 :: c224 :: c225 :: c226 :: c227 :: c228 :: c229 :: c230 :: c231 :: c232 :: c233 :: c234 :: c235 :: c236 :: c237 :: c238 :: c239 :: c240 :: c241 :: c242 :: c243 :: c244 :: c245 :: c246 :: []), []⟩ W3 := by
 conv => arg 2; arg 1; whnf
 have HHS := Aside0.mk hhs
 have HVS := Aside0.mk hvs
 have HNE := Aside0.mk hne
 have HR0 := Aside0.mk hh
 have HV := Aside0.mk hv
 clear hhs hvs hne hh hv
 go_loopg [213] 8 (fun kq v213 w' => ∃ K : Nat, v213 = .int .i64 (K : Int) ∧ Aside0 (K + kq = 8) ∧ Aside0 (Row32 w' hb 76 (addTo hs vs K)) ∧ Aside0 (W3.grownBy w' (some hb)))
 case atStart => exact ⟨0, rfl, ⟨rfl⟩, ⟨HR0.out⟩, ⟨World.grownBy.refl _ _⟩⟩
 case round =>
  clear HR0
  obtain ⟨K, rfl, HK, HR, HG⟩ := hrel
  cases gk with
  | zero =>
   obtain rfl : K = 8 := by have := HK.out; omega
   go_wp2
   exact ⟨by have := HR.out; rwa [addTo_all HHS.out] at this, HG.out⟩
  | succ k1 =>
   have hk := HK.out
   have l1 : decide ((K : Int) < 8) = true := by simp; omega
   have l2 : decide (K < 8) = true := by simp; omega
   have l3 : (K < 8) = True := by simp; omega
   have l4 : ((K : Int) < 8) = True := by simp; omega
   have l5 : (0 ≤ (K : Int)) = True := by simp
   have lK : wrap64 ((K : Int) + 1) = ((K + 1 : Nat) : Int) := by unfold wrap64; omega
   have hl : K < hs.length := by have := HHS.out; omega
   obtain ⟨x, hx⟩ : ∃ x, hs.getD K 0 = x := ⟨_, rfl⟩
   obtain ⟨y, hy⟩ : ∃ y, vs.getD K 0 = y := ⟨_, rfl⟩
   have e1 : wr.cell? ⟨hb, K, none⟩ = some (.int .u32 x) := by
    have := HR.out.cell K (by rw [addTo_len (Nat.le_of_lt hl)]; exact hl)
    rwa [addTo_get hl, hx] at this
   have e2 : wr.frozen? ⟨hb, K, none⟩ = false := HR.out.free K
   have e3 : wr.cell? ⟨vb, K, none⟩ = some (.int .u32 y) := by
    have := (HV.out.grown HG.out (by simp; exact HNE.out)).cell K (by have := HVS.out; omega)
    rwa [hy] at this
   have HX := Aside0.mk hx
   have HY := Aside0.mk hy
   have HL := Aside0.mk hl
   clear hk hx hy hl
   go_wp2
   go_still_tail 8, (by kernel_rfl)
   go_wp2
   go_roundg k1
   case measure => omega
   case rel =>
    refine ⟨K + 1, by rw [lK], ⟨by have := HK.out; omega⟩, ⟨?_⟩, ⟨grownBy_drewN (HG.out.trans (grownBy_setCell wr hb K _)) 1⟩⟩
    have h1 := HR.out.set K ((hs.getD K 0 + vs.getD K 0) % 4294967296)
    rw [addTo_set HL.out, HX.out, HY.out] at h1
    exact h1
end Go.Proofs.YtagdiodhdnebaaaDoor.P
