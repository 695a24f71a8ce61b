/- slices.Delete at things, one of them, in the print's contract form. -/
import Derived.Test.YtoohbmoljdfbjaaDoorPx0
import Derived.Deep.RegionLaw
import Derived.Laws.CopyRow
set_option linter.unusedVariables false
set_option linter.unusedSimpArgs false
namespace Go.Proofs.YtoohbmoljdfbjaaDoor.P
open Go.RowKit Go.Proofs.YtoohbmoljdfbjaaDoorW.PrintWords
/-- Of one element. -/
def slices_Delete_Item.f (l : List S33) (i j : Int) : Option (List S33) := if 0 ≤ i ∧ i < (l.length : Int) ∧ j = i + 1 then some (l.eraseIdx i.toNat) else none
def zeroThing : List Value := [.int .i64 0, .string ⟨#[]⟩, .int .i64 0, .string ⟨#[]⟩]
/-- A row behind whose elements a cell is laid anew. -/
theorem clear_run (ty : TypeId) (W : World) (g o c : Nat) (cur : Array Value) (h : W.heap[g]? = some (.cells cur 33 (0, 0))) (hl : o + 4 ≤ cur.size) :
    (Builtin.clear_ #[26] ty #[.slice (some ⟨g, o, none⟩) 1 c]).run Tryd.prog W = .ok (.tuple #[]) (W.setRow g (cur.toList.take o ++ zeroThing ++ cur.toList.drop (o + 4)).toArray) := by
  have hst := run_storeCells_at Tryd.prog g o 33 zeroThing 0 cur W h (by simpa [zeroThing] using hl) (by intro u hu; simp only [zeroThing, List.mem_cons, List.not_mem_nil, or_false] at hu; rcases hu with rfl | rfl | rfl | rfl <;> rfl)
  have hz : (Builtin.zeroCells (Value.agg #[.int .i64 0, .string ⟨#[]⟩, .int .i64 0, .string ⟨#[]⟩]).cells 1).toList = zeroThing := by
    simp [Builtin.zeroCells, Value.cells, zeroThing]
    rfl
  have hv := Tryd.zeroValue33
  have hu := Tryd.underlying26
  simp [Builtin.clear_, run_underlying hu, hv, hz]
  rw [hst]
  simp [zeroThing]
theorem del_addr (g c k : Nat) : (if c = k + 1 then some (⟨g, 0, none⟩ : Addr) else some ⟨g, (k + 1) * 4, none⟩) = if c = k + 1 then some ⟨g, 0, none⟩ else (some (⟨g, 0, none⟩ : Addr)).map (·.add ((k + 1) * k33.sz)) := by
  split
  · rfl
  · rw [show k33.sz = 4 from rfl, Option.map_some]
    congr 1
    unfold Addr.add
    rw [if_neg (by omega)]
    simp
theorem step_delete {ops : Array Oper} {o : Oper} {a : Act} {W : World} {K : Act → World → Prop} {Q : Exit → Act → World → Prop} {E : Prop} (hgd : o.guard = none) (s x : Operand) (hop : o.op = Op.call { callee := Callee.builtin Builtin.append, args := #[s, x], argTypes := #[26, 26] })
    (g n c k : Nat) (base : Nat) (ok : Nat → Prop) (l : List S33) (hs : a.eval s = .slice (some ⟨g, 0, none⟩) k c) (A : Option Addr) (c2 : Nat) (hx : a.eval x = .slice A (n - (k + 1)) c2) (hA : A = if c = k + 1 then some ⟨g, 0, none⟩ else (some (⟨g, 0, none⟩ : Addr)).map (·.add ((k + 1) * k33.sz)))
    (HO : Kd.R k33 33 W base ok (.slice (some ⟨g, 0, none⟩) n c) l) (hk : k < n)
    (hK : ∀ w1, Kd.R k33 33 w1 base ok (.slice (some ⟨g, 0, none⟩) (n - 1) c) (l.eraseIdx k) → W.grownBy w1 (some g) → K (a.put o.dst (.slice (some ⟨g, 0, none⟩) (n - 1) c)) w1) :
    if Region.wanted o (yielded ops a.tmps) = true then Oper.wp Tryd.prog o a W K Q else E := by
  have hw : Region.wanted o (yielded ops a.tmps) = true := by simp [Region.wanted, hgd]
  rw [if_pos hw]
  obtain ⟨i0, hi, hz⟩ := Option.map_eq_some_iff.1 info33
  simp only [Prod.mk.injEq] at hz
  obtain ⟨w1, hr, h1, h2⟩ := Kd.R_delete_run (P := Tryd.prog) k33 base 26 o.type 33 i0 Tryd.underlying26 hi hz.2.1 HO hk hA c2
  unfold Oper.wp execOp
  simp only [hop, resolve, invoke, builtin, Sem.run_bind, Sem.run_pure, Result.andThen_ok, List.map_toArray, List.map_cons, List.map_nil, hs, hx, hr]
  exact hK w1 h1 h2
theorem row_clear {W : World} {g m c base : Nat} {ok : Nat → Prop} {xs : List S33} (h : Kd.R k33 33 W base ok (.slice (some ⟨g, 0, none⟩) m c) xs) (hm : m < c) :
    ∃ w2, (∀ ty, (Builtin.clear_ #[26] ty #[.slice (some ⟨g, m * 4, none⟩) 1 (c - m)]).run Tryd.prog W = .ok (.tuple #[]) w2) ∧ Kd.R k33 33 w2 base ok (.slice (some ⟨g, 0, none⟩) m c) xs ∧ W.grownBy w2 (some g) := by
  obtain ⟨hok, inner, hown, hreps⟩ := h
  rcases hown.2 with ⟨hv, _⟩ | ⟨g', cap', cur, hv, hb1, hh, hle, hcm, hcs, htake⟩
  · cases hv
  · injection hv with ha hn hc
    injection ha with ha
    injection ha with hg
    subst hg; subst hc; subst hn
    rw [show k33.sz = 4 from rfl] at hcs htake
    have hsz : xs.length * 4 + 4 ≤ cur.size := by rw [hcs]; omega
    obtain ⟨cs, hcse⟩ : ∃ cs, cs = (cur.toList.take (xs.length * 4) ++ zeroThing ++ cur.toList.drop (xs.length * 4 + 4)).toArray := ⟨_, rfl⟩
    have hlen : cs.size = c * 4 := by
      rw [hcse]
      simp only [List.size_toArray, List.length_append, List.length_take, List.length_drop, Array.length_toList, hcs, show zeroThing.length = 4 from rfl]
      omega
    have hgrow : W.grownBy (W.setRow g cs) (some g) := ⟨rfl, rfl, rfl, by simp [World.setRow], fun k _ hk => setRow_other W g k cs (fun e => hk (by rw [e]))⟩
    have hheap := setRow_heap W g cur cs 33 (0, 0) hh
    have hrun := fun ty => clear_run ty W g (xs.length * 4) (c - xs.length) cur hh hsz
    rw [← hcse] at hrun
    refine ⟨_, hrun, ⟨hok, inner, ⟨hown.1, .inr ⟨g, c, _, rfl, hb1, hheap, hle, hcm, by rw [hlen]; rfl, ?_⟩⟩, hreps.imp_ (fun p cs' hp => k33.M_move (fun k hk => setRow_other W g k cs (fun e => hk.2 (by rw [e]; rfl))) hp)⟩, hgrow⟩
    rw [show k33.sz = 4 from rfl, hcse]
    simp only
    rw [List.append_assoc, List.take_append_of_le_length (by simp [hcs]; omega), List.take_take, Nat.min_self]
    exact htake
set_option maxHeartbeats 4000000 in
set_option maxRecDepth 100000 in
theorem delete_walk (g c n k : Nat) (P0_ : Nat → Prop) (l : List S33) (w0 w : World) (HO : Kd.R k33 33 w w0.heap.size P0_ (.slice (some ⟨g, 0, none⟩) n c) l) (hk : k < n) (hn : n ≤ c) (hc : c ≤ 9223372036854775807) :
    Calls Tryd.prog 39 #[.slice (some ⟨g, 0, none⟩) n c, .int .i64 k, .int .i64 ((k : Int) + 1)] w fun e w' => e = .returned (.slice (some ⟨g, 0, none⟩) (n - 1) c) ∧ Kd.R k33 33 w' w0.heap.size P0_ (.slice (some ⟨g, 0, none⟩) (n - 1) c) (l.eraseIdx k) ∧ w.grownBy w' (some g) := by
  have hu23 := Tryd.underlying26
  have a0 : (0 : Int) ≤ k := by omega
  have a1 : (k : Int) ≤ k + 1 := by omega
  have a2 : (k : Int) + 1 ≤ n := by omega
  have a3 : (n : Int) ≤ c := by omega
  have a4 : (k : Int) + 1 ≤ c := by omega
  have a5 : (0 : Int) ≤ (k : Int) + 1 := by omega
  have a6 : (k : Int) ≤ c := by omega
  have a7 : k ≤ c := by omega
  have e1 : ((k : Int) == (k : Int) + 1) = false := by rw [beq_eq_false_iff_ne]; omega
  have HO' := Aside0.mk HO
  clear HO
  go_enter Tryd.func39, Tryd.ntmps39
  go_wp2_with fail
  go_region_law (refine step_delete rfl (.tmp 22) (.tmp 25) rfl g n c k w0.heap.size P0_ l rfl _ _ rfl (del_addr g c k) (Kd.R_below HO'.out (below_drew1 (Below.refl _ _))) hk ?_; intro w1 hR hg)
  all_goals
    obtain ⟨m, rfl⟩ : ∃ m, n = m + 1 := ⟨n - 1, by omega⟩
    simp only [Nat.add_sub_cancel] at hR ⊢
    have hmc : m < c := by omega
    obtain ⟨w2, hrun, hR2, hg2⟩ := row_clear (m := m) hR hmc
    have HG := Aside0.mk (World.grownBy.trans (show w.grownBy w1 (some g) from ⟨hg.os, hg.tape, hg.output, hg.size, hg.block⟩) hg2)
    have HR2 := Aside0.mk hR2
    have b1 : (m : Int) ≤ (m : Int) + 1 := by omega
    have b2 : (m : Int) + 1 ≤ c := by omega
    have b3 : ¬ c = m := by omega
    have b4 : m + 1 ≤ c := hn
    have b5 : (0 : Int) ≤ m := by omega
    have b6 : (0 : Int) ≤ (m : Int) + 1 := by omega
    clear hR hg hR2 hg2 HO' a0 a1 a2 a3 a4 a5 a6 a7 e1 hk
    go_wp2_with fail
    all_goals (go_ret; first | exact ⟨rfl, HR2.out, HG.out⟩ | (obtain rfl := ‹c = k + 1›; exact ⟨rfl, HR2.out, HG.out⟩))
theorem slices_Delete_Item.calls (P0_ : Nat → Prop) (u0 : Value) (l0 : List S33) (a1 a2 : Int) (r : List S33) (w0 w : World) (hB : Below w0.heap.size w0 w) (ho0 : Kd.R k33 33 w w0.heap.size P0_ u0 l0) (h : slices_Delete_Item.f l0 a1 a2 = some r) :
    Calls Tryd.prog 39 #[u0, .int .i64 a1, .int .i64 a2] w fun e w' => ∃ v0_ : Value, e = .returned v0_ ∧ Kd.R k33 33 w' w0.heap.size (fun k_ => P0_ k_ ∨ w.heap.size ≤ k_) v0_ r ∧ Below w0.heap.size w0 w' ∧ Kept w w' (fun k_ => P0_ k_) := by
  unfold slices_Delete_Item.f at h
  split at h
  · rename_i hc
    obtain rfl := Option.some.inj h
    obtain ⟨h0, h1, rfl⟩ := hc
    obtain ⟨k, rfl⟩ := Int.eq_ofNat_of_zero_le h0
    rw [Int.toNat_natCast]
    obtain ⟨g, c, e0, gb, gl, cl, HG⟩ := Kd.R_form ho0 (by omega)
    subst e0
    have hP : P0_ g := ho0.1 g rfl
    have hcap : l0.length ≤ c ∧ c ≤ 9223372036854775807 := by
      obtain ⟨_, inner, hown, _⟩ := ho0
      rcases hown.2 with ⟨hv, _⟩ | ⟨g', cap', cur, hv, hb1, hh, hle, hcm, hcs, htake⟩
      · cases hv
      · injection hv with _ _ hc
        subst hc
        exact ⟨hle, hcm⟩
    refine (delete_walk g c l0.length k P0_ l0 w0 w ho0 (by omega) hcap.1 hcap.2).mono fun e w' ⟨he, hR, hg⟩ => ⟨_, he, Kd.R_mono hR (fun _ hk => .inl hk), hB.grown hg hB.size (fun k hk => by injection hk with hk; subst hk; exact gb), hg.size, fun i hi hn => hg.block i hi (fun e => by injection e with e; subst e; exact hn hP)⟩
  · cases h
end Go.Proofs.YtoohbmoljdfbjaaDoor.P
