/- What the package-level variables hold, as a premise of the contracts that read them; it goes along 'Below'. -/
import Derived.Test.YtoohbmoljdfbjaaDoorShelf2
import Derived.Test.YtoohbmoljdfbjaaDoorWM
import Derived.Lib.AppendIntMem
namespace Go.Proofs.YtoohbmoljdfbjaaDoor.P
open Go.RowKit Go.Proofs.YtoohbmoljdfbjaaDoorW.PrintWords
structure Glob (w : World) : Prop where
  ml : ∃ m, w.cell? ⟨1, 0, none⟩ = some (.int .i64 m)
  p10 : Lib.TabIs Tryd.prog w "internal/strconv.uint64pow10" .u64 Lib.pow10Tab
  es : ∃ tp p, w.var? Tryd.prog "strconv.ErrSyntax" = some #[.iface tp p]
  er : ∃ tp p, w.var? Tryd.prog "strconv.ErrRange" = some #[.iface tp p]
theorem var_on {P : Program} {w w' : World} {n : String} {cs : Array Value} (h : w.var? P n = some cs) (hb : Below w.heap.size w w') : w'.var? P n = some cs := by
  unfold World.var? at *
  cases hg : P.globalNamed n with
  | none => simp [hg] at h
  | some g =>
    simp only [hg, Option.bind_some] at h ⊢
    have hlt : g < w.heap.size := by
      rcases Nat.lt_or_ge g w.heap.size with h' | h'
      · exact h'
      · rw [Array.getElem?_eq_none h'] at h
        simp at h
    rw [hb.block g hlt]
    exact h
theorem Glob.on {w w' : World} (h : Glob w) (hb : Below w.heap.size w w') : Glob w' := by
  obtain ⟨⟨m, hm⟩, h1, ⟨tp, p, h3⟩, ⟨tq, q, h4⟩⟩ := h
  exact ⟨⟨m, pw_cell_below hb hm⟩, var_on h1 hb, ⟨tp, p, var_on h3 hb⟩, ⟨tq, q, var_on h4 hb⟩⟩
end Go.Proofs.YtoohbmoljdfbjaaDoor.P
