/- Words beside the print's: what holds of a world holds some plain steps on, by instances. -/
import Derived.Test.YtoohbmoljdfbjaaDoorWd
set_option linter.unusedVariables false
namespace Go.Proofs.YtoohbmoljdfbjaaDoorW.PrintWords
open Go.RowKit
abbrev tt : Bool := true
abbrev ff : Bool := false
theorem sB {α : Type} {l : List α} {i : Nat} {a : α} : l.toArray.setIfInBounds i a = (l.set i a).toArray := List.setIfInBounds_toArray _ _ _
theorem s0 {α : Type} {a : α} {as_ : List α} {b : α} : (a :: as_).set 0 b = b :: as_ := List.set_cons_zero
theorem s1 {α : Type} {a : α} {as_ : List α} {n : Nat} {b : α} : (a :: as_).set (n + 1) b = a :: as_.set n b := List.set_cons_succ
/-- From w on, W has only drawn and laid blocks. -/
class Lat (w W : World) : Prop where
  o : Below w.heap.size w W
instance Lat.i0 (w : World) : Lat w w := ⟨Below.refl _ _⟩
instance Lat.i1 (w W : World) (n : Nat) [i : Lat w W] : Lat w (W.drewN n) := ⟨pw_below_drewN i.o n⟩
instance Lat.i2 (w W : World) [i : Lat w W] : Lat w W.drew := ⟨below_drew1 i.o⟩
instance Lat.i3 (w W : World) (x : Obj) [i : Lat w W] : Lat w (W.alloc x) := ⟨below_alloc i.o x⟩
/-- From w on, W has drawn, laid blocks, and stored into block g. -/
class Lax (g : Nat) (w W : World) : Prop where
  os : W.os = w.os
  tape : W.tape = w.tape
  output : W.output = w.output
  size : w.heap.size ≤ W.heap.size
  block : ∀ k, k < w.heap.size → k ≠ g → W.heap[k]? = w.heap[k]?
instance Lax.i0 (g : Nat) (w : World) : Lax g w w := ⟨rfl, rfl, rfl, Nat.le_refl _, fun _ _ _ => rfl⟩
instance Lax.i1 (g : Nat) (w W : World) (n : Nat) [i : Lax g w W] : Lax g w (W.drewN n) := ⟨i.os, i.tape, i.output, i.size, i.block⟩
instance Lax.i2 (g : Nat) (w W : World) [i : Lax g w W] : Lax g w W.drew := ⟨i.os, i.tape, i.output, i.size, i.block⟩
instance Lax.i3 (g : Nat) (w W : World) (x : Obj) [i : Lax g w W] : Lax g w (W.alloc x) :=
  have h := (Below.refl W.heap.size W).alloc (Nat.le_refl _) x
  ⟨h.os.trans i.os, h.tape.trans i.tape, h.output.trans i.output, Nat.le_trans i.size h.size, fun k hk hg => (h.block k (Nat.lt_of_lt_of_le hk i.size)).trans (i.block k hk hg)⟩
instance Lax.i4 (g : Nat) (w W : World) (j : Nat) (r : Option Nat) (u : Value) [i : Lax g w W] : Lax g w (W.setCell ⟨g, j, r⟩ u) :=
  have h := (Below.refl 0 W).setCell (p := ⟨g, j, r⟩) (Nat.zero_le _) u
  ⟨h.os.trans i.os, h.tape.trans i.tape, h.output.trans i.output, Nat.le_trans i.size h.size, fun k hk hg => (Below.heap_setCell W ⟨g, j, r⟩ u k hg).trans (i.block k hk hg)⟩
theorem Lax.keep {g : Nat} {w W : World} (i : Lax g w W) (row : Option Nat) : KeepBut w W g row := ⟨i.size, fun k hk hg _ => i.block k hk hg⟩
/-- From w on, W has drawn, laid blocks, and stored into block g: its cells. -/
class Lap (g : Nat) (w W : World) (f : outParam (Array Value → Array Value)) : Prop where
  o : ∀ (cs : Array Value) (t : TypeId), w.heap[g]? = some (.cells cs t (0, 0)) → W.heap[g]? = some (.cells (f cs) t (0, 0))
instance Lap.i0 (g : Nat) (w : World) : Lap g w w id := ⟨fun _ _ h => h⟩
instance Lap.i1 (g : Nat) (w W : World) (f : Array Value → Array Value) (n : Nat) [i : Lap g w W f] : Lap g w (W.drewN n) f := ⟨i.o⟩
instance Lap.i2 (g : Nat) (w W : World) (f : Array Value → Array Value) [i : Lap g w W f] : Lap g w W.drew f := ⟨i.o⟩
instance Lap.i3 (g : Nat) (w W : World) (f : Array Value → Array Value) (x : Obj) [i : Lap g w W f] : Lap g w (W.alloc x) f := ⟨fun cs t h => blk_alloc (i.o cs t h) x⟩
instance Lap.i4 (g : Nat) (w W : World) (f : Array Value → Array Value) (j : Nat) (u : Value) [i : Lap g w W f] : Lap g w (W.setCell ⟨g, j, none⟩ u) (fun cs => (f cs).setIfInBounds j u) := ⟨fun cs t h => blk_set (i.o cs t h) j u⟩
section
variable {w0 w W w2 : World} {g a : Nat} {o : Obj}
theorem bl (h : w.heap[g]? = some o) [i : Lat w W] : W.heap[g]? = some o := blk_below h i.o
theorem bx (h : w.heap[g]? = some o) (n : g ≠ a) [i : Lax a w W] : W.heap[g]? = some o := (i.block g (blk_lt h) n).trans h
theorem bp {cs cs' : Array Value} {t : TypeId} {f : Array Value → Array Value} (h : w.heap[g]? = some (.cells cs t (0, 0))) (e : f cs = cs') [i : Lap g w W f] : W.heap[g]? = some (.cells cs' t (0, 0)) := e ▸ i.o cs t h
theorem bb (h : Below w0.heap.size w0 w) [i : Lat w W] : Below w0.heap.size w0 W := below_step h i.o
theorem bbx (h : Below w0.heap.size w0 w) (n : w0.heap.size ≤ a) [i : Lax a w W] : Below w0.heap.size w0 W :=
  ⟨i.os.trans h.os, i.tape.trans h.tape, i.output.trans h.output, Nat.le_trans h.size i.size, fun k hk => (i.block k (Nat.lt_of_lt_of_le hk h.size) (Nat.ne_of_lt (Nat.lt_of_lt_of_le hk n))).trans (h.block k hk)⟩
theorem kk {row : Option Nat} (h : KeepBut w0 w g row) [i : Lat w W] : KeepBut w0 W g row :=
  ⟨Nat.le_trans h.1 i.o.size, fun k hk hg hr => (i.o.block k (Nat.lt_of_lt_of_le hk h.1)).trans (h.2 k hk hg hr)⟩
theorem kx {row : Option Nat} (h : KeepBut w0 w g row) (n : w0.heap.size ≤ a) [i : Lax a w W] : KeepBut w0 W g row :=
  ⟨Nat.le_trans h.1 i.size, fun k hk hg hr => (i.block k (Nat.lt_of_lt_of_le hk h.1) (Nat.ne_of_lt (Nat.lt_of_lt_of_le hk n))).trans (h.2 k hk hg hr)⟩
theorem ks {row : Option Nat} (h : KeepBut w0 w g row) [i : Lax g w W] : KeepBut w0 W g row :=
  ⟨Nat.le_trans h.1 i.size, fun k hk hg hr => (i.block k (Nat.lt_of_lt_of_le hk h.1) hg).trans (h.2 k hk hg hr)⟩
theorem kl [i : Lax a w W] : Kept w W (fun k => k = a) := ⟨i.size, fun k hk hn => i.block k hk hn⟩
-- the same, laid aside
theorem kb (h : Aside0 (w.heap[g]? = some o)) (hb : Below W.heap.size W w2) [i : Lat w W] : Aside0 (w2.heap[g]? = some o) := ⟨blk_below (blk_below h.out i.o) hb⟩
theorem kbx (h : Aside0 (w.heap[g]? = some o)) (n : Aside0 (g ≠ a)) (hb : Below W.heap.size W w2) [i : Lax a w W] : Aside0 (w2.heap[g]? = some o) := ⟨blk_below ((i.block g (blk_lt h.out) n.out).trans h.out) hb⟩
theorem hbb (h : Aside0 (Below w0.heap.size w0 w)) (hb : Below W.heap.size W w2) [i : Lat w W] : Aside0 (Below w0.heap.size w0 w2) := ⟨below_step (below_step h.out i.o) hb⟩
theorem hbx (h : Aside0 (Below w0.heap.size w0 w)) (n : Aside0 (w0.heap.size ≤ a)) (hb : Below W.heap.size W w2) [i : Lax a w W] : Aside0 (Below w0.heap.size w0 w2) := ⟨below_step (bbx (a := a) h.out n.out) hb⟩
theorem gw (h : Aside0 (Below w0.heap.size w0 w)) (hg : g = W.heap.size) [i : Lat w W] : Aside0 (w0.heap.size ≤ g) := ⟨by rw [hg]; exact Nat.le_trans h.out.size i.o.size⟩
theorem gx (h : Aside0 (Below w0.heap.size w0 w)) (n : Aside0 (w0.heap.size ≤ a)) (hg : g = W.heap.size) [i : Lax a w W] : Aside0 (w0.heap.size ≤ g) := ⟨by rw [hg]; exact Nat.le_trans h.out.size i.size⟩
theorem nl (h : Aside0 (w.heap[a]? = some o)) (hg : g = W.heap.size) [i : Lat w W] : Aside0 (a ≠ g) := ⟨by rw [hg]; exact Nat.ne_of_lt (blk_lt (blk_below h.out i.o))⟩
theorem ng (h : Aside0 (w.heap[a]? = some o)) (hg : g = W.heap.size) [i : Lat w W] : Aside0 (g ≠ a) := ⟨by rw [hg]; exact Nat.ne_of_gt (blk_lt (blk_below h.out i.o))⟩
theorem c2 {x y : Value} {t : TypeId} (h : Aside0 (w.heap[g]? = some (.cells #[x, y] t (0, 0)))) : w.cell? ⟨g, 0, none⟩ = some x ∧ w.cell? ⟨g, 1, none⟩ = some y ∧ w.frozen? ⟨g, 0, none⟩ = false ∧ w.frozen? ⟨g, 1, none⟩ = false :=
  ⟨(blk_cell h.out 0).trans rfl, (blk_cell h.out 1).trans rfl, blk_frozen h.out 0, blk_frozen h.out 1⟩
theorem c4 {x y z u : Value} {t : TypeId} (h : Aside0 (w.heap[g]? = some (.cells #[x, y, z, u] t (0, 0)))) : w.cell? ⟨g, 0, none⟩ = some x ∧ w.cell? ⟨g, 1, none⟩ = some y ∧ w.cell? ⟨g, 2, none⟩ = some z ∧ w.cell? ⟨g, 3, none⟩ = some u ∧ w.frozen? ⟨g, 0, none⟩ = false ∧ w.frozen? ⟨g, 1, none⟩ = false ∧ w.frozen? ⟨g, 2, none⟩ = false ∧ w.frozen? ⟨g, 3, none⟩ = false :=
  ⟨(blk_cell h.out 0).trans rfl, (blk_cell h.out 1).trans rfl, (blk_cell h.out 2).trans rfl, (blk_cell h.out 3).trans rfl, blk_frozen h.out 0, blk_frozen h.out 1, blk_frozen h.out 2, blk_frozen h.out 3⟩
end
namespace Kd
section
variable {α : Type} {d : Kd α} {e : Nat} {w W w2 : World} {base g : Nat} {ok : Nat → Prop} {v : Value} {xs : List α} {A : Option Addr} {n c : Nat}
theorem R_lat (h : d.R e w base ok v xs) [i : Lat w W] : d.R e W base ok v xs := R_below h i.o
theorem S_lat (h : d.S e w base ok v xs) [i : Lat w W] : d.S e W base ok v xs := S_below h i.o
theorem Q_lat (h : d.Q e w base ok v xs) [i : Lat w W] : d.Q e W base ok v xs := Q_below h i.o
theorem N_lat (h : d.N e w base ok v xs) [i : Lat w W] : d.N e W base ok v xs := N_below h i.o
theorem V_lat (h : d.V e w base ok v xs) [i : Lat w W] : d.V e W base ok v xs := V_below h i.o
theorem R_lax (h : d.R e w base ok v xs) (hn : ∀ k, ok k → k ≠ g) [i : Lax g w W] : d.R e W base ok v xs := R_keep h (i.keep none) hn
theorem S_lax (h : d.S e w base ok v xs) (hn : ∀ k, ok k → k ≠ g) [i : Lax g w W] : d.S e W base ok v xs := S_keep h (i.keep none) hn
theorem Q_lax (h : d.Q e w base ok v xs) (hn : ∀ k, ok k → k ≠ g) [i : Lax g w W] : d.Q e W base ok v xs := Q_keep h (i.keep none) hn
theorem N_lax (h : d.N e w base ok v xs) (hn : ∀ k, ok k → k ≠ g) [i : Lax g w W] : d.N e W base ok v xs := N_keep h (i.keep none) hn
theorem V_lax (h : d.V e w base ok v xs) (hn : ∀ k, ok k → k ≠ g) [i : Lax g w W] : d.V e W base ok v xs := V_keep h (i.keep none) hn
theorem rR (h : Aside0 (d.R e w base ok v xs)) (hb : Below W.heap.size W w2) [i : Lat w W] : Aside0 (d.R e w2 base ok v xs) := ⟨R_below (R_below h.out i.o) hb⟩
theorem rS (h : Aside0 (d.S e w base ok v xs)) (hb : Below W.heap.size W w2) [i : Lat w W] : Aside0 (d.S e w2 base ok v xs) := ⟨S_below (S_below h.out i.o) hb⟩
theorem rQ (h : Aside0 (d.Q e w base ok v xs)) (hb : Below W.heap.size W w2) [i : Lat w W] : Aside0 (d.Q e w2 base ok v xs) := ⟨Q_below (Q_below h.out i.o) hb⟩
theorem rN (h : Aside0 (d.N e w base ok v xs)) (hb : Below W.heap.size W w2) [i : Lat w W] : Aside0 (d.N e w2 base ok v xs) := ⟨N_below (N_below h.out i.o) hb⟩
theorem rV (h : Aside0 (d.V e w base ok v xs)) (hb : Below W.heap.size W w2) [i : Lat w W] : Aside0 (d.V e w2 base ok v xs) := ⟨V_below (V_below h.out i.o) hb⟩
theorem eR (h : Aside0 (d.R e w base ok v xs)) (hg : g = W.heap.size) (hb : Below W.heap.size W w2) [i : Lat w W] : Aside0 (d.R e w2 base (fun k => ok k ∧ k ≠ g) v xs) := ⟨R_below (R_elderB (R_below h.out i.o) g (Nat.le_of_eq hg.symm)) hb⟩
theorem eS (h : Aside0 (d.S e w base ok v xs)) (hg : g = W.heap.size) (hb : Below W.heap.size W w2) [i : Lat w W] : Aside0 (d.S e w2 base (fun k => ok k ∧ k ≠ g) v xs) := ⟨S_below (S_elderB (S_below h.out i.o) g (Nat.le_of_eq hg.symm)) hb⟩
theorem eQ (h : Aside0 (d.Q e w base ok v xs)) (hg : g = W.heap.size) (hb : Below W.heap.size W w2) [i : Lat w W] : Aside0 (d.Q e w2 base (fun k => ok k ∧ k ≠ g) v xs) := ⟨Q_below (Q_elderB (Q_below h.out i.o) g (Nat.le_of_eq hg.symm)) hb⟩
theorem eN (h : Aside0 (d.N e w base ok v xs)) (hg : g = W.heap.size) (hb : Below W.heap.size W w2) [i : Lat w W] : Aside0 (d.N e w2 base (fun k => ok k ∧ k ≠ g) v xs) := ⟨N_below (N_elderB (N_below h.out i.o) g (Nat.le_of_eq hg.symm)) hb⟩
theorem xR (h : Aside0 (d.R e w base ok v xs)) (hn : ∀ k, ok k → k ≠ g) (hb : Below W.heap.size W w2) [i : Lax g w W] : Aside0 (d.R e w2 base ok v xs) := ⟨R_below (R_keep h.out (i.keep none) hn) hb⟩
theorem xS (h : Aside0 (d.S e w base ok v xs)) (hn : ∀ k, ok k → k ≠ g) (hb : Below W.heap.size W w2) [i : Lax g w W] : Aside0 (d.S e w2 base ok v xs) := ⟨S_below (S_keep h.out (i.keep none) hn) hb⟩
theorem xQ (h : Aside0 (d.Q e w base ok v xs)) (hn : ∀ k, ok k → k ≠ g) (hb : Below W.heap.size W w2) [i : Lax g w W] : Aside0 (d.Q e w2 base ok v xs) := ⟨Q_below (Q_keep h.out (i.keep none) hn) hb⟩
theorem xN (h : Aside0 (d.N e w base ok v xs)) (hn : ∀ k, ok k → k ≠ g) (hb : Below W.heap.size W w2) [i : Lax g w W] : Aside0 (d.N e w2 base ok v xs) := ⟨N_below (N_keep h.out (i.keep none) hn) hb⟩
theorem cR (h : Aside0 (d.R e w base ok (.slice A n c) xs)) [i : Lat w W] : d.C W A xs.length xs := C_below (R_reads' h.out).2.2 i.o
theorem cS (h : Aside0 (d.S e w base ok (.slice A n c) xs)) [i : Lat w W] : d.C W A xs.length xs := C_below (S_reads' h.out).2.2 i.o
theorem cQ (h : Aside0 (d.Q e w base ok (.slice A n c) xs)) [i : Lat w W] : d.C W A xs.length xs := C_below (Q_reads' h.out).2.2 i.o
theorem cN (h : Aside0 (d.N e w base ok (.slice A n c) xs)) [i : Lat w W] : d.C W A xs.length xs := C_below (N_reads' h.out).2.2 i.o
theorem cV (h : Aside0 (d.V e w base ok (.slice A n c) xs)) [i : Lat w W] : d.C W A xs.length xs := C_below (V_reads' h.out).2.2 i.o
end
end Kd
end Go.Proofs.YtoohbmoljdfbjaaDoorW.PrintWords
