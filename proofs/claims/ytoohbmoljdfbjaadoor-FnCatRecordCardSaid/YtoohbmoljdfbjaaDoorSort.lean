/- slices.SortFunc over things by house and name (12 of them at most), in the print's contract form. -/
import Derived.Test.YtoohbmoljdfbjaaDoorOrd
import Derived.Test.YtoohbmoljdfbjaaDoorShelf
import Derived.Laws.Strings
set_option linter.unusedVariables false
set_option linter.unusedSimpArgs false
namespace Go.Proofs.YtoohbmoljdfbjaaDoor.P
open Go.RowKit Go.Shelf Go.Proofs.YtoohbmoljdfbjaaDoorW.PrintWords
open Go.Sort (flatK size_flatK get_flatK HoldsK SWO insertionSort putRowK mapBlock onCells putCells)
/-- A thing's cells. -/
def encT (x : S33) : List Value := [.int .i64 x.f0, .string x.f1, .int .i64 x.f2, .string x.f3]
def sortL (l : List S33) : List S33 := (insertionSort (ltOf orderI) l.toArray 0 l.toArray.size).toList
def slices_SortFunc_Item.f (l : List S33) : Option (List S33) := if 0 < l.length ∧ l.length ≤ 12 then some (sortL l) else none
theorem order_lt (x y : S33) : ltOf orderI x y = true ↔ x.f0 < y.f0 ∨ x.f0 = y.f0 ∧ x.f1.toList < y.f1.toList := by
  unfold ltOf orderI cmpB
  rw [decide_eq_true_iff, bytesLess_eq]
  by_cases h1 : x.f0 < y.f0
  · simp [h1]
  · by_cases h2 : y.f0 < x.f0
    · simp [h1, h2]; omega
    · have h3 : x.f0 = y.f0 := by omega
      by_cases h4 : x.f1.toList < y.f1.toList
      · simp [h3, h4]
      · by_cases h5 : x.f1.toList = y.f1.toList
        · have h6 := List.lt_irrefl y.f1.toList
          simp [h3, h5, h6]
        · simp [h3, h4, h5]
theorem order_swo : SWO (ltOf orderI) where
  irrefl x := by
    rw [Bool.eq_false_iff]
    intro h
    rcases (order_lt x x).1 h with h | ⟨_, h⟩
    · omega
    · exact List.lt_irrefl _ h
  trans x y z h1 h2 := by
    rw [order_lt] at *
    rcases h1 with h1 | ⟨h1, h1'⟩ <;> rcases h2 with h2 | ⟨h2, h2'⟩
    · exact .inl (by omega)
    · exact .inl (by omega)
    · exact .inl (by omega)
    · exact .inr ⟨by omega, List.lt_trans h1' h2'⟩
  ntrans x y z h1 h2 := by
    rw [Bool.eq_false_iff, ne_eq, order_lt] at *
    rintro (h | ⟨h, h'⟩)
    · by_cases a : x.f0 < y.f0
      · exact h1 (.inl a)
      · exact h2 (.inl (by omega))
    · by_cases a : x.f0 < y.f0
      · exact h1 (.inl a)
      · by_cases b : y.f0 < z.f0
        · exact h2 (.inl b)
        · have e1 : x.f0 = y.f0 := by omega
          have e2 : y.f0 = z.f0 := by omega
          have n1 : ¬ x.f1.toList < y.f1.toList := fun q => h1 (.inr ⟨e1, q⟩)
          have n2 : ¬ y.f1.toList < z.f1.toList := fun q => h2 (.inr ⟨e2, q⟩)
          exact absurd h' (List.not_lt.2 (List.le_trans (List.not_lt.1 n2) (List.not_lt.1 n1)))
theorem sort_holds (l : List S33) : Go.Sort.PermIn 0 l.toArray.size l.toArray (insertionSort (ltOf orderI) l.toArray 0 l.toArray.size) ∧ Go.Sort.SortedIn (ltOf orderI) 0 l.toArray.size (insertionSort (ltOf orderI) l.toArray 0 l.toArray.size) := Go.Sort.insertionSort_holds (lt := ltOf orderI) order_swo l.toArray 0 l.toArray.size (Nat.zero_le _) (Nat.le_refl _)
theorem sort_length (l : List S33) : (sortL l).length = l.length := by
  have h := (sort_holds l).1.1
  unfold sortL
  rw [Array.length_toList, h]
  simp
theorem flat_at (d : Array S33) (t : Nat) (h : t < d.size * 4) : (flatK encT 4 d)[t]? = some ((encT d[t / 4]!)[t % 4]!) := by
  rw [Array.getElem?_eq_getElem (by rw [size_flatK]; exact h), ← get_flatK encT 4 d t h, getElem!_pos _ _ (by rw [size_flatK]; exact h)]
theorem enc_at (x : S33) (i : Nat) (h : i < 4) : (encT x)[i]? = some ((encT x)[i]!) := by
  match i, h with
  | 0, _ => rfl
  | 1, _ => rfl
  | 2, _ => rfl
  | 3, _ => rfl
theorem flat_seg (d : Array S33) (j : Nat) (hj : j < d.size) : ((flatK encT 4 d).toList.drop (j * 4)).take 4 = encT d[j]! := by
  apply List.ext_getElem?
  intro i
  rw [List.getElem?_take, List.getElem?_drop]
  by_cases hi : i < 4
  · rw [if_pos hi, Array.getElem?_toList, flat_at d _ (by omega), show (j * 4 + i) / 4 = j by omega, show (j * 4 + i) % 4 = i by omega, enc_at _ _ hi]
  · rw [if_neg hi]
    symm
    rw [List.getElem?_eq_none]
    simp [encT]; omega
theorem holds_row {w : World} {base g c : Nat} {ok : Nat → Prop} {l : List S33} (h : Kd.R k33 33 w base ok (.slice (some ⟨g, 0, none⟩) l.length c) l) : HoldsK encT 4 w g 0 l.toArray := by
  intro t ht
  rw [size_flatK] at ht
  have ht' : t < l.length * 4 := by simpa using ht
  obtain ⟨ce, hcl, hM, hcc, hfr⟩ := Kd.R_elem h z33 ((t / 4 : Nat) : Int) (by omega) (by omega)
  obtain rfl := k33_openM hM
  rw [Int.toNat_natCast] at hcc hfr
  have e : t / 4 * 4 + t % 4 = t := by omega
  have hx : l.getD (t / 4) z33 = (l.toArray)[t / 4]! := by
    have hlt : t / 4 < l.length := by omega
    simp [hlt]
  rw [hx] at hcc
  have h1 := hcc (t % 4) ((encT (l.toArray)[t / 4]!)[t % 4]!) (enc_at _ _ (by omega))
  have h2 := hfr (t % 4)
  rw [show k33.sz = 4 from rfl, e] at h1 h2
  refine ⟨?_, by rw [Nat.zero_add]; exact h2⟩
  rw [Nat.zero_add, h1, get_flatK _ _ _ _ ht]
  rfl
theorem row_put {w : World} {base g c : Nat} {ok : Nat → Prop} {l : List S33} (h : Kd.R k33 33 w base ok (.slice (some ⟨g, 0, none⟩) l.length c) l) (hg : g < w.heap.size) (d : Array S33) (hd : d.size = l.length) (n : Nat) (os : Array Obj) :
    Kd.R k33 33 (sortWorldK encT 4 w g 0 n d os) base ok (.slice (some ⟨g, 0, none⟩) d.size c) d.toList ∧ w.grownBy (sortWorldK encT 4 w g 0 n d os) (some g) := by
  have hgrow : w.grownBy (sortWorldK encT 4 w g 0 n d os) (some g) := by
    refine ⟨rfl, rfl, rfl, ?_, fun k hk hne => ?_⟩
    · show w.heap.size ≤ (w.heap.modify g _ ++ os).size
      rw [Array.size_append, Array.size_modify]
      omega
    · show (w.heap.modify g _ ++ os)[k]? = _
      rw [Array.getElem?_append_left (by rw [Array.size_modify]; exact hk), Array.getElem?_modify, if_neg (fun e => hne (by rw [e]))]
  refine ⟨?_, hgrow⟩
  obtain ⟨hok, inner, hown, hreps⟩ := h
  rcases hown.2 with ⟨hv, _⟩ | ⟨g', cap', cur, hv, hb1, hh, hle, hcm, hcs, htake⟩
  · cases hv
  · injection hv with ha hn hc
    injection ha with ha
    injection ha with hg'
    subst hg'; subst hc
    rw [show k33.sz = 4 from rfl] at hcs htake
    have hheap : (sortWorldK encT 4 w g 0 n d os).heap[g]? = some (.cells (putCells id 0 (flatK encT 4 d) cur) 33 (0, 0)) := by
      show (w.heap.modify g _ ++ os)[g]? = _
      rw [Array.getElem?_append_left (by rw [Array.size_modify]; exact hg), Array.getElem?_modify, if_pos rfl, hh]
      rfl
    have hsz : (putCells id 0 (flatK encT 4 d) cur).size = c * 4 := by unfold putCells; rw [Array.size_mapIdx, hcs]
    have htk : (putCells id 0 (flatK encT 4 d) cur).toList.take (d.size * 4) = (flatK encT 4 d).toList := by
      apply List.ext_getElem?
      intro i
      rw [List.getElem?_take]
      by_cases hi : i < d.size * 4
      · have hi2 : i < cur.size := by rw [hcs]; omega
        rw [if_pos hi, Array.getElem?_toList, Array.getElem?_toList]
        unfold putCells
        rw [Array.getElem?_mapIdx, Array.getElem?_eq_getElem hi2, Option.map_some, if_pos ⟨Nat.zero_le _, by rw [size_flatK]; omega⟩, Nat.sub_zero, flat_at d i hi, get_flatK _ _ _ _ hi]
        rfl
      · rw [if_neg hi]
        symm
        rw [List.getElem?_eq_none]
        rw [Array.length_toList, size_flatK]
        omega
    refine ⟨hok, (flatK encT 4 d).toList, ⟨by rw [Array.length_toList, size_flatK, Array.length_toList]; rfl, .inr ⟨g, c, _, by rw [Array.length_toList], hb1, hheap, by rw [Array.length_toList, hd]; exact hle, hcm, hsz, by rw [Array.length_toList]; exact htk⟩⟩, by rw [Array.length_toList, size_flatK, Array.length_toList]; rfl, fun j p hj => ?_⟩
    rw [Array.getElem?_toList] at hj
    have hjl := (Array.getElem?_eq_some_iff.1 hj).1
    have hp : d[j]! = p := by rw [getElem!_pos d j hjl]; exact (Array.getElem?_eq_some_iff.1 hj).2
    rw [show k33.sz = 4 from rfl, flat_seg d j hjl, hp]
    exact k33_mkM _ _ _ p
theorem slices_SortFunc_Item.calls (P0_ : Nat → Prop) (u0 : Value) (l0 : List S33) (r : List S33) (w0 w : World) (hB : Below w0.heap.size w0 w) (ho0 : Kd.R k33 33 w w0.heap.size P0_ u0 l0) (h : slices_SortFunc_Item.f l0 = some r) :
    Calls Tryd.prog 40 #[u0, .func (.func 33) #[] #[]] w fun e w' => e = .returned (.tuple #[]) ∧ Kd.R k33 33 w' w0.heap.size (fun k_ => P0_ k_ ∨ w.heap.size ≤ k_) u0 r ∧ Below w0.heap.size w0 w' ∧ Kept w w' (fun k_ => P0_ k_) := by
  unfold slices_SortFunc_Item.f at h
  split at h
  · rename_i hc
    obtain rfl := Option.some.inj h
    obtain ⟨g, c, e0, gb, gl, cl, HG⟩ := Kd.R_form ho0 hc.1
    subst e0
    have hP : P0_ g := ho0.1 g rfl
    have eg : ∀ args w, (callFunc 33 args).run Tryd.prog w = .ok (.enter 33 args) w := enters_of Tryd.func33 (by kernel_rfl) rfl
    have hcon := AnyQ.slices_SortFunc_small Tryd.sortItem 4 Tryd.isAgg33 Tryd.sizeOf33 encT (fun _ => rfl) (fun x v hv => by simp [encT] at hv; rcases hv with rfl | rfl | rfl | rfl <;> rfl) orderI 33 #[] g 0 c l0.toArray w eg (fun _ _ _ _ x y => order_calls x y _) (holds_row ho0) gl (by simpa using hc.2)
      (fun n W hn => (Any.bits_Len Tryd.lays125 n W (by omega) (by omega)).mono fun _ _ ⟨he, hw⟩ => ⟨⟨_, he⟩, hw⟩)
    change Calls Tryd.prog 40 _ _ _ at hcon
    refine hcon.mono fun e w' ⟨he, n, os, hw⟩ => ?_
    have hs : (insertionSort (ltOf orderI) l0.toArray 0 l0.toArray.size).size = l0.length := by rw [(sort_holds l0).1.1]; simp
    obtain ⟨hR, hg⟩ := row_put ho0 gl _ hs n os
    rw [← hw] at hR hg
    rw [hs] at hR
    exact ⟨he, Kd.R_mono hR (fun _ hk => .inl hk), hB.grown hg hB.size (fun k hk => by injection hk with hk; subst hk; exact gb), hg.size, fun i hi hn => hg.block i hi (fun e => by injection e with e; subst e; exact hn hP)⟩
  · cases h
end Go.Proofs.YtoohbmoljdfbjaaDoor.P
