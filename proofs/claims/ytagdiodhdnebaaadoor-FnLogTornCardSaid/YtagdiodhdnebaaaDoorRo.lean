/- Rows of 32-bit numbers in a block of the call's own (arrays), and a view of bytes in a world that stands still. -/
import Derived.Test.YtagdiodhdnebaaaDoorOp
set_option linter.unusedVariables false
set_option linter.unusedSimpArgs false
namespace Go.Proofs.YtagdiodhdnebaaaDoor.P
open Go.RowKit Go.Proofs.YtagdiodhdnebaaaDoorW.PrintWords Go.Proofs.YtagdiodhdnebaaaDoorW.PrintMore
def Row32 (w : World) (b : Nat) (ty : TypeId) (xs : List Int) : Prop := w.heap[b]? = some (.cells (xs.map (Value.int .u32)).toArray ty (0, 0))
namespace Row32
variable {w w' : World} {b : Nat} {ty : TypeId} {xs : List Int}
theorem lt (h : Row32 w b ty xs) : b < w.heap.size := (Array.getElem?_eq_some_iff.1 h).1
theorem cell (h : Row32 w b ty xs) (i : Nat) (hi : i < xs.length) : w.cell? ⟨b, i, none⟩ = some (.int .u32 (xs.getD i 0)) := by
  rw [cell_of_row w b i _ ty (0, 0) h]
  simp [hi]
theorem free (h : Row32 w b ty xs) (i : Nat) : w.frozen? ⟨b, i, none⟩ = false := by
  have : w.heap[b]? = some (.cells (xs.map (Value.int .u32)).toArray ty (0, 0)) := h
  simp [World.frozen?, this]
theorem set (h : Row32 w b ty xs) (i : Nat) (x : Int) : Row32 (w.setCell ⟨b, i, none⟩ (.int .u32 x)) b ty (xs.set i x) := by
  have h' : w.heap[b]? = some (.cells (xs.map (Value.int .u32)).toArray ty (0, 0)) := h
  unfold Row32
  rw [setCell_eq_setRow w b i _ ty (0, 0) _ h, setRow_heap w b _ _ ty (0, 0) h]
  simp [List.map_set]
theorem grown {row : Option Nat} (h : Row32 w b ty xs) (hg : w.grownBy w' row) (hne : some b ≠ row) : Row32 w' b ty xs := (hg.block b h.lt hne).trans h
theorem setRow (h : Row32 w b ty xs) (ys : List Int) : Row32 (w.setRow b (ys.map (Value.int .u32)).toArray) b ty ys := setRow_heap w b _ _ ty (0, 0) h
end Row32
theorem grownBy_setCell (w : World) (b i : Nat) (x : Value) : w.grownBy (w.setCell ⟨b, i, none⟩ x) (some b) :=
  ⟨rfl, rfl, rfl, by simp [World.setCell], fun k _ hk => Below.heap_setCell w _ _ k (fun e => hk (by rw [e]))⟩
theorem grownBy_setRow (w : World) (b : Nat) (cs : Array Value) : w.grownBy (w.setRow b cs) (some b) :=
  ⟨rfl, rfl, rfl, by simp, fun k _ hk => setRow_other w b k _ (fun e => hk (by rw [e]))⟩
theorem grownBy_drewN {w w' : World} {row : Option Nat} (h : w.grownBy w' row) (n : Nat) : w.grownBy (w'.drewN n) row := by
  have e : (w'.drewN n).heap = w'.heap := rfl
  exact ⟨h.os, h.tape, h.output, by rw [e]; exact h.size, fun k hk hne => by rw [e]; exact h.block k hk hne⟩
theorem grownBy_less {w w' : World} {row : Option Nat} (h : w.grownBy w' none) : w.grownBy w' row := ⟨h.os, h.tape, h.output, h.size, fun k hk _ => h.block k hk (by simp)⟩
theorem grownBy_new {w w' : World} {b : Nat} {row : Option Nat} (h : w.grownBy w' (some b)) (hb : w.heap.size ≤ b) : w.grownBy w' row := ⟨h.os, h.tape, h.output, h.size, fun k hk _ => h.block k hk (by simp; omega)⟩
theorem grownBy_over {w a b : World} {row : Option Nat} {nb : Nat} (h : w.grownBy a row) (k : a.grownBy b (some nb)) (hn : w.heap.size ≤ nb) : w.grownBy b row :=
  ⟨k.os.trans h.os, k.tape.trans h.tape, k.output.trans h.output, Nat.le_trans h.size k.size, fun i hi hne => (k.block i (Nat.lt_of_lt_of_le hi h.size) (by simp; omega)).trans (h.block i hi hne)⟩
/-- A view of bytes of the world 'w', in a block other than 'hb'. -/
def BV (w : World) (hb : Nat) (v : Value) (xs : List Int) : Prop :=
  ∃ ad c, v = .slice (some ad) xs.length c ∧ xs.length ≤ c ∧ c ≤ maxLen ∧ ad.block ≠ hb ∧ ∀ j u, xs[j]? = some u → w.cell? (ad.add j) = some (.int .u8 u)
theorem OpenB.bv {w : World} {base hb : Nat} {v : Value} {xs : List Int} (h : OpenB w base v xs) (hlt : hb < base) : BV w hb v xs := by
  obtain ⟨g, c, rfl, hc, hg, _, hcm, hr⟩ := h.reads
  refine ⟨⟨g, 0, none⟩, c, rfl, hc, hcm, by show g ≠ hb; omega, fun j u hj => ?_⟩
  have hlt2 : j < xs.length := (List.getElem?_eq_some_iff.1 hj).1
  obtain ⟨ad, e, hcell⟩ := (hr w rfl).2.2 (by omega)
  obtain rfl : (⟨g, 0, none⟩ : Addr) = ad := by injection e
  obtain ⟨cs, hl, rfl, hcs⟩ := hcell j u hj
  have := hcs 0 (.int .u8 u) rfl
  rw [show j * (Kd.int .u8).sz + 0 = j by show j * 1 + 0 = j; omega] at this
  exact this
theorem BV.drop {w : World} {hb c n : Nat} {ad : Addr} {xs : List Int} (h : BV w hb (.slice (some ad) n c) xs) (m : Nat) (hm : m ≤ n) : BV w hb (.slice (some (if c = m then ad else ad.add m)) (n - m) (c - m)) (xs.drop m) := by
  obtain ⟨ad', c', hv, hc, hcm, hne, hcell⟩ := h
  injection hv with h1 h2 h3
  obtain rfl : ad = ad' := by injection h1
  subst h2
  subst h3
  refine ⟨if c = m then ad else ad.add m, c - m, by simp, by simp; omega, by omega, ?_, fun j u hj => ?_⟩
  · split
    · exact hne
    · have e : (ad.add m).block = ad.block := by unfold Addr.add; split <;> rfl
      rw [e]; exact hne
  · rw [List.getElem?_drop] at hj
    have hlt2 : m + j < xs.length := (List.getElem?_eq_some_iff.1 hj).1
    rw [if_neg (by omega)]
    have := hcell (m + j) u hj
    rwa [Addr.add_add]
end Go.Proofs.YtagdiodhdnebaaaDoor.P
