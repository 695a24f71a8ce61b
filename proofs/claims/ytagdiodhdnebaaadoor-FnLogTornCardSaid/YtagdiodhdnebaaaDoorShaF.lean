/- impl.sha256Of: the walk, in parts (printed by wip/log/gen_sha.py). -/
import Derived.Test.YtagdiodhdnebaaaDoorShaW
set_option linter.unusedVariables false
set_option linter.unusedSimpArgs false
namespace Go.Proofs.YtagdiodhdnebaaaDoor.P
open Go.RowKit Go.Proofs.YtagdiodhdnebaaaDoorW.PrintWords Go.Proofs.YtagdiodhdnebaaaDoorW.PrintLast Go.Proofs.YtagdiodhdnebaaaDoorW.PrintMore

theorem own_append4 {P : Program} {w0 W : World} {ops : Array Oper} {rest : List Oper} {o : Oper} {a : Act} {Q : Exit → Act → World → Prop} (base : Nat) (hgd : o.guard = none) (s x : Operand) (t : TypeId) (ho : o.op = .call { callee := .builtin .append, args := #[s, x], argTypes := #[t, t] })
    (ht : P.underlying t = some (.slice 5)) (hinfo : (P.info? 5).map (fun i => (i.zero, i.size, i.bytes)) = some (some (.int .u8 0), 1, 1)) (v : Value) (xs : List Int) (n : Nat) (y0 y1 y2 y3 : Int) (hs : a.eval s = v) (hx : a.eval x = .slice (some ⟨W.heap.size, 0, none⟩) 4 4)
    (HO : W.ownsRow base 5 1 v n (nums .u8 xs)) (HB : Below base w0 W) (hbase : base ≤ W.heap.size) (hl : n + 4 ≤ 1000)
    (h : ∀ v1 w1, w1.ownsRow base 5 1 v1 (n + 4) (nums .u8 (xs ++ [y0, y1, y2, y3])) → Below base w0 w1 → wpList P ops Q rest (a.put o.dst v1) w1) : wpList P ops Q (o :: rest) a (W.alloc (.cells #[.int .u8 y0, .int .u8 y1, .int .u8 y2, .int .u8 y3] 5)) := by
  obtain ⟨i0, hi, hzz⟩ := Option.map_eq_some_iff.1 hinfo
  simp only [Prod.mk.injEq] at hzz
  obtain ⟨hz0, hz1, hz2⟩ := hzz
  refine wpList_append_own (W.alloc (.cells #[.int .u8 y0, .int .u8 y1, .int .u8 y2, .int .u8 y3] 5)) hgd s x t ho base 5 i0 (.int .u8 0) 1 1 ht hi hz0 hz1 hz2 rfl (by decide) v n _ hs (HO.alloc _) ⟨W.heap.size, 0, none⟩ 4 4 (nums .u8 [y0, y1, y2, y3]) hx rfl
    (by simpa [nums] using World.news_of_block (cs := #[.int .u8 y0, .int .u8 y1, .int .u8 y2, .int .u8 y3]) (t := 5) (fr := (0, 0)) (heap_alloc_new W _)) (by simp [nums, Value.oneCell']) (by simp only [maxLen]; omega) (by omega) (by simp; omega) ?_
  intro v1 w1 hown hg _
  refine h v1 w1 (by simpa [nums] using hown) ((HB.alloc hbase _).grown hg (by simp; omega) (own_base HO))
set_option maxHeartbeats 40000000 in
set_option maxRecDepth 1000000 in
theorem fLoop {c0 c1 c2 c3 c4 c5 c6 c7 c8 c9 c10 c11 c12 c13 c14 c15 c16 c17 c18 c19 c20 c21 c22 c23 c24 c25 c26 c27 c28 c29 c30 c31 c32 c33 c34 c35 c36 c37 c38 c39 c40 c41 c42 c43 c44 c45 c46 c47 c48 c49 c50 c51 c52 c53 c54 c55 c56 c57 c58 c59 c60 c61 c62 c63 c64 c65 c66 c67 c68 c69 c70 c71 c72 c73 c74 c75 c76 c77 c78 c79 c80 c81 c82 c83 c84 c85 c86 c87 c88 c89 c90 c91 c92 c93 c94 c95 c96 c97 c98 c99 c100 c101 c102 c103 c104 c105 c106 c107 c108 c109 c110 c111 c112 c113 c114 c115 c116 c117 c118 c119 c120 c121 c122 c123 c124 c125 c126 c127 c128 c129 c130 c131 c132 c133 c134 c135 c136 c137 c138 c139 c140 c141 c142 c143 c144 c145 c146 c147 c148 c149 c150 c151 c152 c153 c154 c155 c156 c157 c158 c159 c160 c161 c162 c163 c164 c165 c166 c167 c168 c169 c170 c171 c172 c173 c174 c175 c176 c177 c178 c179 c180 c181 c182 c183 c184 c185 c186 c187 c188 c189 c190 c191 c192 c193 c194 c195 c196 c197 c198 c199 c200 c201 c202 c203 c204 c205 c206 c207 c208 c209 c210 c211 c212 c213 c214 c215 c216 c217 c218 c219 c220 c221 c222 c223 c224 c225 c228 c229 c230 c231 c232 c233 c234 c235 c236 c237 c238 c239 c240 c241 c242 c243 c244 c245 c246 : Value} {x0 x1 x2 x3 x4 x5 x6 x7 : Int} {base : Nat} {W3 : World} {Q : Exit → Act → World → Prop} (hown : W3.ownsRow base 5 1 c18 0 (nums .u8 [])) (hbase : base ≤ W3.heap.size)
    (hexit : ∀ u18 u20 u227 u228 u229 u230 u231 u232 u233 u234 u235 u236 u237 u238 u239 u240 u241 u242 u243 u244 w', (w'.ownsRow base 5 1 u18 32 (nums .u8 ([x0, x1, x2, x3, x4, x5, x6, x7].flatMap bytes4)) ∧ Below base W3 w') → Q (.exit 12) ⟨List.toArray (c0 :: c1 :: c2 :: c3 :: c4 :: c5 :: c6 :: c7 :: c8 :: c9 :: c10 :: c11 :: c12 :: c13 :: c14 :: c15 :: c16 :: c17 :: u18 :: c19 :: u20 :: c21 :: c22 :: c23 :: c24 :: c25 :: c26 :: c27 :: c28 :: c29 :: c30 :: c31 :: c32 :: c33 :: c34 :: c35 :: c36 :: c37 :: c38 :: c39 :: c40 :: c41 :: c42 :: c43 :: c44 :: c45 :: c46 :: c47 :: c48 :: c49 :: c50 :: c51 :: c52 :: c53 :: c54 :: c55 :: c56 :: c57 :: c58 :: c59 :: c60 :: c61 :: c62 :: c63 :: c64 :: c65 :: c66 :: c67 :: c68 :: c69 :: c70 :: c71 :: c72 :: c73 :: c74 :: c75 :: c76 :: c77 :: c78 :: c79 :: c80 :: c81 :: c82 :: c83 :: c84 :: c85 :: c86 :: c87 :: c88 :: c89 :: c90 :: c91 :: c92 :: c93 :: c94 :: c95 :: c96 :: c97 :: c98 :: c99 :: c100 :: c101 :: c102 :: c103 :: c104 :: c105 :: c106 :: c107 :: c108 :: c109 :: c110 :: c111 :: c112 :: c113 :: c114 :: c115 :: c116 :: c117 :: c118 :: c119 :: c120 :: c121 :: c122 :: c123 :: c124 :: c125 :: c126 :: c127 :: c128 :: c129 :: c130 :: c131 :: c132 :: c133 :: c134 :: c135 :: c136 :: c137 :: c138 :: c139 :: c140 :: c141 :: c142 :: c143 :: c144 :: c145 :: c146 :: c147 :: c148 :: c149 :: c150 :: c151 :: c152 :: c153 :: c154 :: c155 :: c156 :: c157 :: c158 :: c159 :: c160 :: c161 :: c162 :: c163 :: c164 :: c165 :: c166 :: c167 :: c168 :: c169 :: c170 :: c171 :: c172 :: c173 :: c174 :: c175 :: c176 :: c177 :: c178 :: c179 :: c180 :: c181 :: c182 :: c183 :: c184 :: c185 :: c186 :: c187 :: c188 :: c189 :: c190 :: c191 :: c192 :: c193 :: c194 :: c195 :: c196 :: c197 :: c198 :: c199 :: c200 :: c201 :: c202 :: c203 :: c204 :: c205 :: c206 :: c207 :: c208 :: c209 :: c210 :: c211 :: c212 :: c213 :: c214 :: c215 :: c216 :: c217 :: c218 :: c219 :: c220 :: c221 :: c222 :: c223 :: c224 :: c225 :: .agg #[.int .u32 x0, .int .u32 x1, .int .u32 x2, .int .u32 x3, .int .u32 x4, .int .u32 x5, .int .u32 x6, .int .u32 x7] :: u227 :: u228 :: u229 :: u230 :: u231 :: u232 :: u233 :: u234 :: u235 :: u236 :: u237 :: u238 :: u239 :: u240 :: u241 :: u242 :: u243 :: u244 :: c245 :: c246 :: []), []⟩ w') :
    (Code.loop fRound).wp Tryd.prog Q ⟨List.toArray (c0 :: c1 :: c2 :: c3 :: c4 :: c5 :: c6 :: c7 :: c8 :: c9 :: c10 :: c11 :: c12 :: c13 :: c14 :: c15 :: c16 :: c17 :: c18 :: c19 :: c20 :: c21 :: c22 :: c23 :: c24 :: c25 :: c26 :: c27 :: c28 :: c29 :: c30 :: c31 :: c32 :: c33 :: c34 :: c35 :: c36 :: c37 :: c38 :: c39 :: c40 :: c41 :: c42 :: c43 :: c44 :: c45 :: c46 :: c47 :: c48 :: c49 :: c50 :: c51 :: c52 :: c53 :: c54 :: c55 :: c56 :: c57 :: c58 :: c59 :: c60 :: c61 :: c62 :: c63 :: c64 :: c65 :: c66 :: c67 :: c68 :: c69 :: c70 :: c71 :: c72 :: c73 :: c74 :: c75 :: c76 :: c77 :: c78 :: c79 :: c80 :: c81 :: c82 :: c83 :: c84 :: c85 :: c86 :: c87 :: c88 :: c89 :: c90 :: c91 :: c92 :: c93 :: c94 :: c95 :: c96 :: c97 :: c98 :: c99 :: c100 :: c101 :: c102 :: c103 :: c104 :: c105 :: c106 :: c107 :: c108 :: c109 :: c110 :: c111 :: c112 :: c113 :: c114 :: c115 :: c116 :: c117 :: c118 :: c119 :: c120 :: c121 :: c122 :: c123 :: c124 :: c125 :: c126 :: c127 :: c128 :: c129 :: c130 :: c131 :: c132 :: c133 :: c134 :: c135 :: c136 :: c137 :: c138 :: c139 :: c140 :: c141 :: c142 :: c143 :: c144 :: c145 :: c146 :: c147 :: c148 :: c149 :: c150 :: c151 :: c152 :: c153 :: c154 :: c155 :: c156 :: c157 :: c158 :: c159 :: c160 :: c161 :: c162 :: c163 :: c164 :: c165 :: c166 :: c167 :: c168 :: c169 :: c170 :: c171 :: c172 :: c173 :: c174 :: c175 :: c176 :: c177 :: c178 :: c179 :: c180 :: c181 :: c182 :: c183 :: c184 :: c185 :: c186 :: c187 :: c188 :: c189 :: c190 :: c191 :: c192 :: c193 :: c194 :: c195 :: c196 :: c197 :: c198 :: c199 :: c200 :: c201 :: c202 :: c203 :: c204 :: c205 :: c206 :: c207 :: c208 :: c209 :: c210 :: c211 :: c212 :: c213 :: c214 :: c215 :: c216 :: c217 :: c218 :: c219 :: c220 :: c221 :: c222 :: c223 :: c224 :: c225 :: .agg #[.int .u32 x0, .int .u32 x1, .int .u32 x2, .int .u32 x3, .int .u32 x4, .int .u32 x5, .int .u32 x6, .int .u32 x7] :: .int .i64 0 :: c228 :: c229 :: c230 :: c231 :: c232 :: c233 :: c234 :: c235 :: c236 :: c237 :: c238 :: c239 :: c240 :: c241 :: c242 :: c243 :: c244 :: c245 :: c246 :: []), []⟩ W3 := by
 conv => arg 2; arg 1; whnf
 have HO := Aside0.mk hown
 have HBA := Aside0.mk hbase
 clear hown hbase
 go_loopg [18, 227] 8 (fun kq v18 v227 w' => ∃ K : Int, v227 = .int .i64 K ∧ Aside0 (K = 8 - kq ∧ kq ≤ 8) ∧ Aside0 (w'.ownsRow base 5 1 v18 (4 * (8 - kq)) (nums .u8 (([x0, x1, x2, x3, x4, x5, x6, x7].take (8 - kq)).flatMap bytes4))) ∧ Aside0 (Below base W3 w'))
 case atStart => exact ⟨0, rfl, ⟨by decide⟩, ⟨HO.out⟩, ⟨Below.refl _ _⟩⟩
 case round =>
  clear HO
  obtain ⟨K, rfl, HK, HO, HB⟩ := hrel
  cases gk with
  | zero =>
   obtain rfl : K = 8 := by have := HK.out; omega
   go_wp2
   exact ⟨HO.out, HB.out⟩
  | succ k1 =>
   have hk := HK.out
   have hkk : k1 = 0 ∨ k1 = 1 ∨ k1 = 2 ∨ k1 = 3 ∨ k1 = 4 ∨ k1 = 5 ∨ k1 = 6 ∨ k1 = 7 := by omega
   clear hk
   rcases hkk with hk1 | hk1 | hk1 | hk1 | hk1 | hk1 | hk1 | hk1
   · obtain rfl : k1 = 0 := hk1
     obtain rfl : K = 7 := by have := HK.out; omega
     have i0 : ∀ w, (Instr.index 76 (.agg #[.int .u32 x0, .int .u32 x1, .int .u32 x2, .int .u32 x3, .int .u32 x4, .int .u32 x5, .int .u32 x6, .int .u32 x7]) (.int .i64 7)).run Tryd.prog w = .ok (.int .u32 x7) w := fun _ => by kernel_rfl
     go_wp2_with (first | ((with_reducible refine gate_dst (N := 243) rfl ?_); refine own_append4 (w0 := W3) base rfl (.tmp 230) (.tmp 242) 34 rfl Tryd.underlying34 info5 _ _ 28 (x7 / 16777216 % 256) (x7 / 65536 % 256) (x7 / 256 % 256) (x7 % 256) rfl rfl HO.out HB.out (Nat.le_trans HBA.out HB.out.size) (by decide) ?_; intro v2 w2 ho1 hb1; clear HO HB; have HO := Aside0.mk ho1; have HB := Aside0.mk hb1; clear ho1 hb1))
     go_roundg 0
     case measure => omega
     case rel => exact ⟨_, rfl, ⟨by omega⟩, ⟨HO.out⟩, HB⟩
   · obtain rfl : k1 = 1 := hk1
     obtain rfl : K = 6 := by have := HK.out; omega
     have i0 : ∀ w, (Instr.index 76 (.agg #[.int .u32 x0, .int .u32 x1, .int .u32 x2, .int .u32 x3, .int .u32 x4, .int .u32 x5, .int .u32 x6, .int .u32 x7]) (.int .i64 6)).run Tryd.prog w = .ok (.int .u32 x6) w := fun _ => by kernel_rfl
     go_wp2_with (first | ((with_reducible refine gate_dst (N := 243) rfl ?_); refine own_append4 (w0 := W3) base rfl (.tmp 230) (.tmp 242) 34 rfl Tryd.underlying34 info5 _ _ 24 (x6 / 16777216 % 256) (x6 / 65536 % 256) (x6 / 256 % 256) (x6 % 256) rfl rfl HO.out HB.out (Nat.le_trans HBA.out HB.out.size) (by decide) ?_; intro v2 w2 ho1 hb1; clear HO HB; have HO := Aside0.mk ho1; have HB := Aside0.mk hb1; clear ho1 hb1))
     go_roundg 1
     case measure => omega
     case rel => exact ⟨_, rfl, ⟨by omega⟩, ⟨HO.out⟩, HB⟩
   · obtain rfl : k1 = 2 := hk1
     obtain rfl : K = 5 := by have := HK.out; omega
     have i0 : ∀ w, (Instr.index 76 (.agg #[.int .u32 x0, .int .u32 x1, .int .u32 x2, .int .u32 x3, .int .u32 x4, .int .u32 x5, .int .u32 x6, .int .u32 x7]) (.int .i64 5)).run Tryd.prog w = .ok (.int .u32 x5) w := fun _ => by kernel_rfl
     go_wp2_with (first | ((with_reducible refine gate_dst (N := 243) rfl ?_); refine own_append4 (w0 := W3) base rfl (.tmp 230) (.tmp 242) 34 rfl Tryd.underlying34 info5 _ _ 20 (x5 / 16777216 % 256) (x5 / 65536 % 256) (x5 / 256 % 256) (x5 % 256) rfl rfl HO.out HB.out (Nat.le_trans HBA.out HB.out.size) (by decide) ?_; intro v2 w2 ho1 hb1; clear HO HB; have HO := Aside0.mk ho1; have HB := Aside0.mk hb1; clear ho1 hb1))
     go_roundg 2
     case measure => omega
     case rel => exact ⟨_, rfl, ⟨by omega⟩, ⟨HO.out⟩, HB⟩
   · obtain rfl : k1 = 3 := hk1
     obtain rfl : K = 4 := by have := HK.out; omega
     have i0 : ∀ w, (Instr.index 76 (.agg #[.int .u32 x0, .int .u32 x1, .int .u32 x2, .int .u32 x3, .int .u32 x4, .int .u32 x5, .int .u32 x6, .int .u32 x7]) (.int .i64 4)).run Tryd.prog w = .ok (.int .u32 x4) w := fun _ => by kernel_rfl
     go_wp2_with (first | ((with_reducible refine gate_dst (N := 243) rfl ?_); refine own_append4 (w0 := W3) base rfl (.tmp 230) (.tmp 242) 34 rfl Tryd.underlying34 info5 _ _ 16 (x4 / 16777216 % 256) (x4 / 65536 % 256) (x4 / 256 % 256) (x4 % 256) rfl rfl HO.out HB.out (Nat.le_trans HBA.out HB.out.size) (by decide) ?_; intro v2 w2 ho1 hb1; clear HO HB; have HO := Aside0.mk ho1; have HB := Aside0.mk hb1; clear ho1 hb1))
     go_roundg 3
     case measure => omega
     case rel => exact ⟨_, rfl, ⟨by omega⟩, ⟨HO.out⟩, HB⟩
   · obtain rfl : k1 = 4 := hk1
     obtain rfl : K = 3 := by have := HK.out; omega
     have i0 : ∀ w, (Instr.index 76 (.agg #[.int .u32 x0, .int .u32 x1, .int .u32 x2, .int .u32 x3, .int .u32 x4, .int .u32 x5, .int .u32 x6, .int .u32 x7]) (.int .i64 3)).run Tryd.prog w = .ok (.int .u32 x3) w := fun _ => by kernel_rfl
     go_wp2_with (first | ((with_reducible refine gate_dst (N := 243) rfl ?_); refine own_append4 (w0 := W3) base rfl (.tmp 230) (.tmp 242) 34 rfl Tryd.underlying34 info5 _ _ 12 (x3 / 16777216 % 256) (x3 / 65536 % 256) (x3 / 256 % 256) (x3 % 256) rfl rfl HO.out HB.out (Nat.le_trans HBA.out HB.out.size) (by decide) ?_; intro v2 w2 ho1 hb1; clear HO HB; have HO := Aside0.mk ho1; have HB := Aside0.mk hb1; clear ho1 hb1))
     go_roundg 4
     case measure => omega
     case rel => exact ⟨_, rfl, ⟨by omega⟩, ⟨HO.out⟩, HB⟩
   · obtain rfl : k1 = 5 := hk1
     obtain rfl : K = 2 := by have := HK.out; omega
     have i0 : ∀ w, (Instr.index 76 (.agg #[.int .u32 x0, .int .u32 x1, .int .u32 x2, .int .u32 x3, .int .u32 x4, .int .u32 x5, .int .u32 x6, .int .u32 x7]) (.int .i64 2)).run Tryd.prog w = .ok (.int .u32 x2) w := fun _ => by kernel_rfl
     go_wp2_with (first | ((with_reducible refine gate_dst (N := 243) rfl ?_); refine own_append4 (w0 := W3) base rfl (.tmp 230) (.tmp 242) 34 rfl Tryd.underlying34 info5 _ _ 8 (x2 / 16777216 % 256) (x2 / 65536 % 256) (x2 / 256 % 256) (x2 % 256) rfl rfl HO.out HB.out (Nat.le_trans HBA.out HB.out.size) (by decide) ?_; intro v2 w2 ho1 hb1; clear HO HB; have HO := Aside0.mk ho1; have HB := Aside0.mk hb1; clear ho1 hb1))
     go_roundg 5
     case measure => omega
     case rel => exact ⟨_, rfl, ⟨by omega⟩, ⟨HO.out⟩, HB⟩
   · obtain rfl : k1 = 6 := hk1
     obtain rfl : K = 1 := by have := HK.out; omega
     have i0 : ∀ w, (Instr.index 76 (.agg #[.int .u32 x0, .int .u32 x1, .int .u32 x2, .int .u32 x3, .int .u32 x4, .int .u32 x5, .int .u32 x6, .int .u32 x7]) (.int .i64 1)).run Tryd.prog w = .ok (.int .u32 x1) w := fun _ => by kernel_rfl
     go_wp2_with (first | ((with_reducible refine gate_dst (N := 243) rfl ?_); refine own_append4 (w0 := W3) base rfl (.tmp 230) (.tmp 242) 34 rfl Tryd.underlying34 info5 _ _ 4 (x1 / 16777216 % 256) (x1 / 65536 % 256) (x1 / 256 % 256) (x1 % 256) rfl rfl HO.out HB.out (Nat.le_trans HBA.out HB.out.size) (by decide) ?_; intro v2 w2 ho1 hb1; clear HO HB; have HO := Aside0.mk ho1; have HB := Aside0.mk hb1; clear ho1 hb1))
     go_roundg 6
     case measure => omega
     case rel => exact ⟨_, rfl, ⟨by omega⟩, ⟨HO.out⟩, HB⟩
   · obtain rfl : k1 = 7 := hk1
     obtain rfl : K = 0 := by have := HK.out; omega
     have i0 : ∀ w, (Instr.index 76 (.agg #[.int .u32 x0, .int .u32 x1, .int .u32 x2, .int .u32 x3, .int .u32 x4, .int .u32 x5, .int .u32 x6, .int .u32 x7]) (.int .i64 0)).run Tryd.prog w = .ok (.int .u32 x0) w := fun _ => by kernel_rfl
     go_wp2_with (first | ((with_reducible refine gate_dst (N := 243) rfl ?_); refine own_append4 (w0 := W3) base rfl (.tmp 230) (.tmp 242) 34 rfl Tryd.underlying34 info5 _ _ 0 (x0 / 16777216 % 256) (x0 / 65536 % 256) (x0 / 256 % 256) (x0 % 256) rfl rfl HO.out HB.out (Nat.le_trans HBA.out HB.out.size) (by decide) ?_; intro v2 w2 ho1 hb1; clear HO HB; have HO := Aside0.mk ho1; have HB := Aside0.mk hb1; clear ho1 hb1))
     go_roundg 7
     case measure => omega
     case rel => exact ⟨_, rfl, ⟨by omega⟩, ⟨HO.out⟩, HB⟩
end Go.Proofs.YtagdiodhdnebaaaDoor.P
