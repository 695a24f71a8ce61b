/- Cat.find and Cat.edition (slices.IndexFunc over a closure), in the print's contract form. -/
import Derived.Test.YtoohbmoljdfbjaaDoorPx0
import Derived.Shelf.Abstract
set_option linter.unusedVariables false
set_option linter.unusedSimpArgs false
namespace Go.Proofs.YtoohbmoljdfbjaaDoor.P
open Go.RowKit Go.Shelf Go.Proofs.YtoohbmoljdfbjaaDoorW.PrintWords
instance : Inhabited S33 := ⟨z33⟩
def isThing (h : Int) (n : ByteArray) (x : S33) : Bool := decide (x.f0 = h) && (x.f1.toList == n.toList)
def isEdition (e : Int) (x : S33) : Bool := decide (x.f2 = e)
/-- The first place at which p holds, or -1. -/
def firstAt (p : S33 → Bool) (l : List S33) : Int := match l.findIdx? p with | some i => (i : Int) | none => -1
def impl_Cat_find.f (a0 : Int) (l : List S33) (h : Int) (n : ByteArray) : Option Int := if l.length ≤ 4294967296 then some (firstAt (isThing h n) l) else none
def impl_Cat_edition.f (a0 : Int) (l : List S33) (e : Int) : Option Int := if l.length ≤ 4294967296 then some (firstAt (isEdition e) l) else none
theorem first_hit {p : S33 → Bool} : ∀ {l : List S33} {k : Nat}, k < l.length → p (l.getD k z33) = true → (∀ j, j < k → p (l.getD j z33) = false) → l.findIdx? p = some k
  | x :: l, 0, _, h, _ => by simp [List.findIdx?_cons] at h ⊢; simp [h]
  | x :: l, k + 1, hk, h, hn => by
    have h0 : p x = false := by simpa using hn 0 (by omega)
    have := first_hit (p := p) (l := l) (k := k) (by simpa using hk) (by simpa using h) (fun j hj => by simpa using hn (j + 1) (by omega))
    rw [List.findIdx?_cons]
    simp [h0, this]
theorem first_miss {p : S33 → Bool} : ∀ {l : List S33}, (∀ j, j < l.length → p (l.getD j z33) = false) → l.findIdx? p = none
  | [], _ => rfl
  | x :: l, hn => by
    have h0 : p x = false := by simpa using hn 0 (by simp)
    have := first_miss (p := p) (l := l) (fun j hj => by simpa using hn (j + 1) (by simpa using hj))
    rw [List.findIdx?_cons]
    simp [h0, this]
def PredB (g : Nat) (lb : Array Value) (p : S33 → Bool) (w : World) : Prop :=
  ∀ (W : World) (x : S33), Below w.heap.size w W → Calls Tryd.prog g (#[.agg #[.int .i64 x.f0, .string x.f1, .int .i64 x.f2, .string x.f3]] ++ lb) W fun e w' => e = .returned (.bool (p x)) ∧ Below w.heap.size w w'
theorem ret_i {a b : Int} (h : a = b) : Ending.returned (.int .i64 a) = .returned (.int .i64 b) := by rw [h]
set_option maxHeartbeats 2000000 in
set_option maxRecDepth 100000 in
theorem index_calls (p : S33 → Bool) (g : Nat) (lb : Array Value) (eg : ∀ args w, (callFunc g args).run Tryd.prog w = .ok (.enter g args) w) (A : Option Addr) (c : Nat) (l : List S33) (w : World) (hC : Kd.C k33 w A l.length l) (hlen : l.length ≤ 4294967296) (hp : PredB g lb p w) :
    Calls Tryd.prog 29 #[.slice A l.length c, .func (.func g) #[] lb] w fun e w' => e = .returned (.int .i64 (firstAt p l)) ∧ Below w.heap.size w w' := by
  have hu38 := Tryd.underlying33
  have HR := Aside0.mk hC
  clear hC
  have HP := Aside0.mk hp
  clear hp
  go_enter Tryd.func29, Tryd.ntmps29
  go_wp2
  go_loopg [5, 8] l.length (fun gg _ s8 wr => ∃ i : Int, s8 = .int .i64 i ∧ Aside0 (0 ≤ i) ∧ Aside0 (i ≤ (l.length : Int)) ∧ Aside0 ((l.length : Int) - i ≤ gg) ∧ Aside0 (Below w.heap.size w wr) ∧ Aside0 (∀ j : Nat, (j : Int) < i → p (l.getD j z33) = false))
  case atStart => exact ⟨0, rfl, ⟨by decide⟩, ⟨by omega⟩, ⟨by omega⟩, ⟨Below.refl _ _⟩, ⟨fun j hj => by omega⟩⟩
  case round =>
    obtain ⟨i, rfl, H0, H1, HG, HB, HA⟩ := hrel
    by_cases hlt : i < (l.length : Int)
    · have c0 : decide (i < (l.length : Int)) = true := decide_eq_true hlt
      have p1 : 0 ≤ i := H0.out
      have q1 : i < (l.length : Int) := hlt
      clear hlt
      obtain ⟨ad, e, hx0, hx1, hx2, hx3⟩ := at_T33 HR.out i p1 q1
      cases e
      replace hx0 := (HB.out.cell (World.block_lt_of_cell? w _ hx0)).trans hx0
      replace hx1 := (HB.out.cell (World.block_lt_of_cell? w _ hx1)).trans hx1
      replace hx2 := (HB.out.cell (World.block_lt_of_cell? w _ hx2)).trans hx2
      replace hx3 := (HB.out.cell (World.block_lt_of_cell? w _ hx3)).trans hx3
      have HX : Aside0 (rd_T33 l i = l.getD i.toNat z33) := ⟨rfl⟩
      generalize rd_T33 l i = x at hx0 hx1 hx2 hx3 HX
      have hw1 : wrap64 (i + 1) = i + 1 := by unfold wrap64; omega
      have HW := Aside0.mk hw1
      clear hw1
      have hcall := HP.out wr x HB.out
      clear HP HR
      cases hq : p x with
      | true =>
        rw [hq] at hcall
        replace p1 := eq_true p1
        replace q1 := eq_true q1
        go_wp2_with fail
        refine hcall.mono ?_
        rintro e w' ⟨rfl, hb'⟩
        go_wp2_with fail
        go_ret
        refine ⟨ret_i (a := i) ?_, hb'⟩
        have p2 : 0 ≤ i := H0.out
        have q2 : i < (l.length : Int) := of_eq_true q1
        rw [HX.out] at hq
        unfold firstAt
        rw [first_hit (k := i.toNat) (by omega) hq (fun j hj => HA.out j (by omega))]
        simp only [Int.toNat_of_nonneg p2]
      | false =>
        rw [hq] at hcall
        replace p1 := eq_true p1
        replace q1 := eq_true q1
        go_wp2_with fail
        refine hcall.mono ?_
        rintro e w' ⟨rfl, hb'⟩
        go_wp2_with fail
        have q2 : i < (l.length : Int) := of_eq_true q1
        have p2 := H0.out
        go_roundg (l.length - (i.toNat + 1))
        case measure => have := HG.out; omega
        case rel =>
          refine ⟨i + 1, by rw [HW.out], ⟨by omega⟩, ⟨by omega⟩, ⟨by omega⟩, ⟨hb'⟩, ⟨fun j hj => ?_⟩⟩
          by_cases e : j = i.toNat
          · subst e
            rw [← HX.out]
            exact hq
          · exact HA.out j (by omega)
    · have c0 : decide (i < (l.length : Int)) = false := decide_eq_false hlt
      have h1 := H1.out
      obtain rfl : i = (l.length : Int) := by omega
      clear HP eg HR hlt h1
      go_wp2
      go_ret
      refine ⟨ret_i (a := -1) ?_, HB.out⟩
      unfold firstAt
      rw [first_miss (fun j hj => HA.out j (by omega))]
theorem pred_thing (h : Int) (n : ByteArray) (B B2 : Nat) (w : World) (hB : B < w.heap.size) (hB2 : B2 < w.heap.size) (hc : w.cell? ⟨B, 0, none⟩ = some (.int .i64 h)) (hc2 : w.cell? ⟨B2, 0, none⟩ = some (.string n)) :
    PredB 30 #[.pointer (some ⟨B, 0, none⟩), .pointer (some ⟨B2, 0, none⟩)] (isThing h n) w := fun W x hb => by
  have g1 : W.cell? ⟨B, 0, none⟩ = some (.int .i64 h) := (hb.cell (p := ⟨B, 0, none⟩) hB).trans hc
  have g2 : W.cell? ⟨B2, 0, none⟩ = some (.string n) := (hb.cell (p := ⟨B2, 0, none⟩) hB2).trans hc2
  have hBW : B < W.heap.size := Nat.lt_of_lt_of_le hB hb.size
  have hBW2 : B2 < W.heap.size := Nat.lt_of_lt_of_le hB2 hb.size
  have hne : B ≠ W.heap.size := by omega
  have hne2 : B2 ≠ W.heap.size := by omega
  show Calls Tryd.prog 30 #[.agg #[.int .i64 x.f0, .string x.f1, .int .i64 x.f2, .string x.f3], .pointer (some ⟨B, 0, none⟩), .pointer (some ⟨B2, 0, none⟩)] W _
  have hu38 := Tryd.underlying33
  clear hc hc2 hB hB2
  unfold isThing
  by_cases h1 : x.f0 = h
  · have e1 : (x.f0 == h) = true := by simpa using h1
    have e2 : decide (x.f0 = h) = true := by simpa using h1
    rw [e2]
    clear h1
    cases h2 : (x.f1.toList == n.toList) with
    | true =>
      go_enter Tryd.func30, Tryd.ntmps30
      go_wp2
      go_ret
      exact ⟨rfl, hb.alloc hb.size _⟩
    | false =>
      go_enter Tryd.func30, Tryd.ntmps30
      go_wp2
      go_ret
      exact ⟨rfl, hb.alloc hb.size _⟩
  · have e1 : (x.f0 == h) = false := by simpa using h1
    have e2 : decide (x.f0 = h) = false := by simpa using h1
    rw [e2]
    clear h1
    go_enter Tryd.func30, Tryd.ntmps30
    go_wp2
    go_ret
    exact ⟨rfl, hb.alloc hb.size _⟩
theorem pred_edition (h : Int) (B : Nat) (w : World) (hB : B < w.heap.size) (hc : w.cell? ⟨B, 0, none⟩ = some (.int .i64 h)) : PredB 41 #[.pointer (some ⟨B, 0, none⟩)] (isEdition h) w := fun W x hb => by
  have g1 : W.cell? ⟨B, 0, none⟩ = some (.int .i64 h) := (hb.cell (p := ⟨B, 0, none⟩) hB).trans hc
  have hBW : B < W.heap.size := Nat.lt_of_lt_of_le hB hb.size
  have hne : B ≠ W.heap.size := by omega
  show Calls Tryd.prog 41 #[.agg #[.int .i64 x.f0, .string x.f1, .int .i64 x.f2, .string x.f3], .pointer (some ⟨B, 0, none⟩)] W _
  have hu38 := Tryd.underlying33
  clear hc hB
  unfold isEdition
  by_cases h1 : x.f2 = h
  · have e1 : (x.f2 == h) = true := by simpa using h1
    have e2 : decide (x.f2 = h) = true := by simpa using h1
    rw [e2]
    clear h1
    go_enter Tryd.func41, Tryd.ntmps41
    go_wp2
    go_ret
    exact ⟨rfl, hb.alloc hb.size _⟩
  · have e1 : (x.f2 == h) = false := by simpa using h1
    have e2 : decide (x.f2 = h) = false := by simpa using h1
    rw [e2]
    clear h1
    go_enter Tryd.func41, Tryd.ntmps41
    go_wp2
    go_ret
    exact ⟨rfl, hb.alloc hb.size _⟩
theorem impl_Cat_find.calls (a0_0 : Int) (A0_1 : Option Addr) (c0_1 : Nat) (l0_1 : List S33) (a1 : Int) (a2 : ByteArray) (r : Int) (w : World) (hr0_1 : Kd.C k33 w A0_1 l0_1.length l0_1) (hc0_1 : l0_1.length ≤ c0_1) (h : impl_Cat_find.f a0_0 l0_1 a1 a2 = some r) :
    Calls Tryd.prog 19 #[.agg #[.int .i64 a0_0, .slice A0_1 l0_1.length c0_1], .int .i64 a1, .string a2] w fun e w' => e = .returned (.int .i64 r) ∧ Below w.heap.size w w' := by
  unfold impl_Cat_find.f at h
  split at h
  · rename_i hl
    obtain rfl := Option.some.inj h
    clear h
    have eg : ∀ args w, (callFunc 30 args).run Tryd.prog w = .ok (.enter 30 args) w := enters_of Tryd.func30 (by kernel_rfl) rfl
    have hcon : ∀ o : Obj, Calls Tryd.prog 29 #[.slice A0_1 l0_1.length c0_1, .func (.func 30) #[] #[.pointer (some ⟨w.heap.size + 1, 0, none⟩), .pointer (some ⟨w.heap.size + 1 + 1, 0, none⟩)]] (((w.alloc o).alloc (.cells #[.int .i64 a1] 3)).alloc (.cells #[.string a2] 9)) fun e w' => e = .returned (.int .i64 (firstAt (isThing a1 a2) l0_1)) ∧ Below w.heap.size w w' := fun o => by
      have hb : Below w.heap.size w (((w.alloc o).alloc (.cells #[.int .i64 a1] 3)).alloc (.cells #[.string a2] 9)) := (((Below.refl _ _).alloc (Nat.le_refl _) _).alloc (by simp) _).alloc (by simp; omega) _
      have h1 := index_calls (isThing a1 a2) 30 #[.pointer (some ⟨w.heap.size + 1, 0, none⟩), .pointer (some ⟨w.heap.size + 1 + 1, 0, none⟩)] eg A0_1 c0_1 l0_1 _ (Kd.C_below hr0_1 hb) hl (pred_thing a1 a2 _ _ _ (by simp) (by simp) (by
        have h2 := Below.cell (w := (w.alloc o).alloc (.cells #[.int .i64 a1] 3)) (w' := ((w.alloc o).alloc (.cells #[.int .i64 a1] 3)).alloc (.cells #[.string a2] 9)) (p := ⟨w.heap.size + 1, 0, none⟩) ((Below.refl _ _).alloc (Nat.le_refl _) _) (by simp)
        rw [h2]
        have h3 := blk_new (w.alloc o) (.cells #[.int .i64 a1] 3)
        have h4 : (w.alloc o).heap.size = w.heap.size + 1 := by simp
        rw [h4] at h3
        exact (blk_cell h3 0).trans rfl) (by
        have h3 := blk_new ((w.alloc o).alloc (.cells #[.int .i64 a1] 3)) (.cells #[.string a2] 9)
        have h4 : ((w.alloc o).alloc (.cells #[.int .i64 a1] 3)).heap.size = w.heap.size + 1 + 1 := by simp
        rw [h4] at h3
        exact (blk_cell h3 0).trans rfl))
      exact h1.mono fun e w' ⟨he, hb'⟩ => ⟨he, hb.trans (hb'.mono hb.size)⟩
    have hu25 := Tryd.underlying28
    clear hr0_1
    generalize firstAt (isThing a1 a2) l0_1 = r at hcon ⊢
    go_enter Tryd.func19, Tryd.ntmps19
    go_wp2_with fail
    refine (hcon _).mono ?_
    rintro e w' ⟨rfl, hb'⟩
    go_wp2_with fail
    go_ret
    exact ⟨rfl, hb'⟩
  · cases h
theorem impl_Cat_edition.calls (a0_0 : Int) (A0_1 : Option Addr) (c0_1 : Nat) (l0_1 : List S33) (a1 : Int) (r : Int) (w : World) (hr0_1 : Kd.C k33 w A0_1 l0_1.length l0_1) (hc0_1 : l0_1.length ≤ c0_1) (h : impl_Cat_edition.f a0_0 l0_1 a1 = some r) :
    Calls Tryd.prog 32 #[.agg #[.int .i64 a0_0, .slice A0_1 l0_1.length c0_1], .int .i64 a1] w fun e w' => e = .returned (.int .i64 r) ∧ Below w.heap.size w w' := by
  unfold impl_Cat_edition.f at h
  split at h
  · rename_i hl
    obtain rfl := Option.some.inj h
    clear h
    have eg : ∀ args w, (callFunc 41 args).run Tryd.prog w = .ok (.enter 41 args) w := enters_of Tryd.func41 (by kernel_rfl) rfl
    have hcon : ∀ o : Obj, Calls Tryd.prog 29 #[.slice A0_1 l0_1.length c0_1, .func (.func 41) #[] #[.pointer (some ⟨w.heap.size + 1, 0, none⟩)]] ((w.alloc o).alloc (.cells #[.int .i64 a1] 3)) fun e w' => e = .returned (.int .i64 (firstAt (isEdition a1) l0_1)) ∧ Below w.heap.size w w' := fun o => by
      have hb : Below w.heap.size w ((w.alloc o).alloc (.cells #[.int .i64 a1] 3)) := ((Below.refl _ _).alloc (Nat.le_refl _) _).alloc (by simp) _
      have h1 := index_calls (isEdition a1) 41 #[.pointer (some ⟨w.heap.size + 1, 0, none⟩)] eg A0_1 c0_1 l0_1 _ (Kd.C_below hr0_1 hb) hl (pred_edition a1 _ _ (by simp) (by
        have h3 := blk_new (w.alloc o) (.cells #[.int .i64 a1] 3)
        have h4 : (w.alloc o).heap.size = w.heap.size + 1 := by simp
        rw [h4] at h3
        exact (blk_cell h3 0).trans rfl))
      exact h1.mono fun e w' ⟨he, hb'⟩ => ⟨he, hb.trans (hb'.mono hb.size)⟩
    have hu25 := Tryd.underlying28
    clear hr0_1
    generalize firstAt (isEdition a1) l0_1 = r at hcon ⊢
    go_enter Tryd.func32, Tryd.ntmps32
    go_wp2_with fail
    refine (hcon _).mono ?_
    rintro e w' ⟨rfl, hb'⟩
    go_wp2_with fail
    go_ret
    exact ⟨rfl, hb'⟩
  · cases h
end Go.Proofs.YtoohbmoljdfbjaaDoor.P
