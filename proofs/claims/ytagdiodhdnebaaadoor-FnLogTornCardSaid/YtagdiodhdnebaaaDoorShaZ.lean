/- impl.sha256Of: the walk, in parts (printed by wip/log/gen_sha.py). -/
import Derived.Test.YtagdiodhdnebaaaDoorShaW
import Derived.Laws.Tables
set_option linter.unusedVariables false
set_option linter.unusedSimpArgs false
namespace Go.Proofs.YtagdiodhdnebaaaDoor.P
open Go.RowKit Go.Proofs.YtagdiodhdnebaaaDoorW.PrintWords Go.Proofs.YtagdiodhdnebaaaDoorW.PrintLast Go.Proofs.YtagdiodhdnebaaaDoorW.PrintMore

def zeros : Array Value := (List.replicate 64 (Value.int .u32 0)).toArray
theorem zbuilt : Tryd.prog.built 78 [] = some zeros := by kernel_rfl
theorem zinfo : (Tryd.prog.info? 78).map (fun i => (i.zero, i.size)) = some (some (.agg zeros), 64) := by kernel_rfl
section
variable {ops : Array Oper} {rest : List Oper} {o : Oper} {a : Act} {W : World} {Q : Exit → Act → World → Prop}
theorem z_build (hg : o.guard = none) (ho : o.op = .build 78 #[]) (h : ∀ Z, Aside0 (Z = zeros) → wpList Tryd.prog ops Q rest (a.put o.dst (.agg Z)) W) : wpList Tryd.prog ops Q (o :: rest) a W := by
  refine Kd.event_run (v := .agg zeros) (w1 := W) hg ?_ (h zeros ⟨rfl⟩)
  simp [execOp, ho, run_build (P := Tryd.prog) W 78 #[] zeros zbuilt, Result.andThen]
theorem z_alloc (hg : o.guard = none) (ho : o.op = .alloc 78) (h : ∀ w', Aside0 (w' = W.alloc (.cells zeros 78)) → wpList Tryd.prog ops Q rest (a.put o.dst (.pointer (some ⟨W.heap.size, 0, none⟩))) w') : wpList Tryd.prog ops Q (o :: rest) a W := by
  obtain ⟨i, hi, hzz⟩ := Option.map_eq_some_iff.1 zinfo
  simp only [Prod.mk.injEq] at hzz
  refine Kd.event_run (v := .pointer (some ⟨W.heap.size, 0, none⟩)) (w1 := W.alloc (.cells zeros 78)) hg ?_ (h _ ⟨rfl⟩)
  simp [execOp, ho, Instr.alloc, zeroValue, typeInfo, hi, hzz.1, newVar, newRow, Value.cells, Result.andThen]
theorem z_store (hg : o.guard = none) {x y : Operand} (ho : o.op = .store 78 x y) {W0 : World} {Z : Array Value} (hx : a.eval x = .pointer (some ⟨W0.heap.size, 0, none⟩)) (hy : a.eval y = .agg Z) (hZ : Aside0 (Z = zeros)) (hW : Aside0 (W = W0.alloc (.cells zeros 78)))
    (h : ∀ w', Aside0 (Row32 w' W0.heap.size 78 (List.replicate 64 0) ∧ W0.grownBy w' none) → wpList Tryd.prog ops Q rest (a.put o.dst undef) w') : wpList Tryd.prog ops Q (o :: rest) a W := by
  obtain ⟨rfl⟩ := hZ
  obtain ⟨rfl⟩ := hW
  obtain ⟨i, hi, hzz⟩ := Option.map_eq_some_iff.1 zinfo
  simp only [Prod.mk.injEq] at hzz
  refine wpList_store_row hg 78 x y ho W0.heap.size zeros hx hy 78 zeros (heap_alloc_new W0 _) (by rw [hi]; simp [hzz.2, zeros]) rfl (by kernel_rfl) (h _ ⟨?_, ?_⟩)
  · exact setRow_heap _ _ _ _ _ _ (heap_alloc_new W0 _)
  · exact grownBy_new ((grownBy_less (World.grownBy_alloc W0 _ none)).trans (grownBy_setRow _ _ _)) (Nat.le_refl _)
end
end Go.Proofs.YtagdiodhdnebaaaDoor.P
