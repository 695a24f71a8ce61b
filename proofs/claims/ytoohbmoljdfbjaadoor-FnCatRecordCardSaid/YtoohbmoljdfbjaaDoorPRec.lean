/- Plain law of the records: what is drawn is one of a few things; each is reckoned out. -/
import Derived.Test.YtoohbmoljdfbjaaDoorPR0
import Derived.Test.YtoohbmoljdfbjaaDoorPR1
import Derived.Test.YtoohbmoljdfbjaaDoorPR2
import Derived.Test.YtoohbmoljdfbjaaDoorPR3
import Derived.KernelRfl
set_option linter.unusedVariables false
set_option linter.unusedSimpArgs false
namespace Go.Proofs.YtoohbmoljdfbjaaDoor.P
open Go.RowKit Go.Proofs.YtoohbmoljdfbjaaDoorW.PrintWords Go.Proofs.YtoohbmoljdfbjaaDoorW.PrintMore
theorem ra0 : (houses.all fun h => names.all fun n => rest 60 h n (⟨#[]⟩ : ByteArray) == some true) = true := by kernel_rfl
theorem ra1 : (houses.all fun h => names.all fun n => rest 60 h n (⟨#[116, 101, 120, 116]⟩ : ByteArray) == some true) = true := by kernel_rfl
theorem ra2 : (houses.all fun h => names.all fun n => rest 60 h n (⟨#[97, 58, 98, 10]⟩ : ByteArray) == some true) = true := by kernel_rfl
theorem ra4 : (houses.all fun h => names.all fun n => rest 60 h n (tx 301) == some true) = true := by kernel_rfl
theorem rb2 : (names.all fun n => rest 60 2 n (tx 300) == some true) = true := by kernel_rfl
theorem rb3 : (names.all fun n => rest 60 (-1) n (tx 300) == some true) = true := by kernel_rfl
theorem r3_0_4 : rest 60 0 (⟨#[]⟩ : ByteArray) (tx 300) = some true := by kernel_rfl
theorem r3_0_5 : rest 60 0 (⟨#[65]⟩ : ByteArray) (tx 300) = some true := by kernel_rfl
theorem r3_1_4 : rest 60 1 (⟨#[]⟩ : ByteArray) (tx 300) = some true := by kernel_rfl
theorem r3_1_5 : rest 60 1 (⟨#[65]⟩ : ByteArray) (tx 300) = some true := by kernel_rfl
theorem of_all {h : Int} {n t : ByteArray} (hh : h ∈ houses) (hn : n ∈ names) (a : (houses.all fun h => names.all fun n => rest 60 h n t == some true) = true) : rest 60 h n t = some true := by
  have b := List.all_eq_true.1 (List.all_eq_true.1 a h hh) n hn
  simpa using b
theorem of_names {h : Int} {n t : ByteArray} (hn : n ∈ names) (a : (names.all fun n => rest 60 h n t == some true) = true) : rest 60 h n t = some true := by
  have b := List.all_eq_true.1 a n hn
  simpa using b
theorem r300 {n : ByteArray} (hn : n ∈ names) : rest 60 0 n (tx 300) = some true ∧ rest 60 1 n (tx 300) = some true := by
  simp only [names, List.mem_cons, List.not_mem_nil, or_false] at hn
  rcases hn with rfl | rfl | rfl | rfl | rfl | rfl
  · exact ⟨r3_0_0, r3_1_0⟩
  · exact ⟨r3_0_1, r3_1_1⟩
  · exact ⟨r3_0_2, r3_1_2⟩
  · exact ⟨r3_0_3, r3_1_3⟩
  · exact ⟨r3_0_4, r3_1_4⟩
  · exact ⟨r3_0_5, r3_1_5⟩
theorem rest_any {h : Int} {n t : ByteArray} (hh : h ∈ houses) (hn : n ∈ names) (ht : t ∈ texts) : rest 60 h n t = some true := by
  simp only [texts, List.mem_cons, List.not_mem_nil, or_false] at ht
  rcases ht with rfl | rfl | rfl | rfl | rfl
  · exact of_all hh hn ra0
  · exact of_all hh hn ra1
  · exact of_all hh hn ra2
  · have r := r300 hn
    have q2 := of_names hn rb2
    have q3 := of_names hn rb3
    simp only [houses, List.mem_cons, List.not_mem_nil, or_false] at hh
    rcases hh with rfl | rfl | rfl | rfl | rfl | rfl
    · exact r.1
    · exact r.2
    · exact r.1
    · exact r.2
    · exact q2
    · exact q3
  · exact of_all hh hn ra4
theorem rest_ends {h : Int} {n t : ByteArray} (hh : h ∈ houses) (hn : n ∈ names) (ht : t ∈ texts) : Ends (fun k => rest k h n t) true := Ends.of (rest_mono h n t) (k := 60) (rest_any hh hn ht)
theorem many300 : spec_l1Many.f 60 (⟨#[116]⟩ : ByteArray) 300 = some (tx 300) := by kernel_rfl
theorem many301 : spec_l1Many.f 60 (⟨#[116]⟩ : ByteArray) 301 = some (tx 301) := by kernel_rfl
theorem drawRec_f {l0 : List Int} (h : ∀ x ∈ l0, (Lit.int .u8 x).wf = true) : ∃ (hs : Int) (n t : ByteArray), Ends (fun k => spec_DrawCatRecord.f k l0) (hs, n, t) ∧ hs ∈ houses ∧ n ∈ names ∧ t ∈ texts := by
  obtain ⟨b, hb, ho⟩ := open_bytes h
  obtain ⟨v, g1, g2, g3, _⟩ := pick_ends hb (n := 18) (p := 0) (by decide) (by decide) (by decide)
  have g4 := g3 (by decide)
  have gw : wrap64 (Int.tdiv (wrap64 (v * 6)) 18) = v * 6 / 18 := by
    rw [w64 (x := v * 6) (by omega) (by omega), Int.tdiv_eq_ediv_of_nonneg (by omega)]
    exact w64 (by omega) (by omega)
  obtain ⟨n, k1, k2⟩ := of_ends hb (p := 0 + 1) (by omega) (by omega) names (by decide) (by decide)
  obtain ⟨u, f1, f2, f3, _⟩ := pick_ends hb (n := 5) (p := 0 + 1 + 1) (by omega) (by omega) (by decide)
  have f4 := f3 (by decide)
  have m1 : Ends (fun k => spec_l1Many.f k (⟨#[116]⟩ : ByteArray) 300) (tx 300) := Ends.of (fun k => spec_l1Many.mono _ _ k) many300
  have m2 : Ends (fun k => spec_l1Many.f k (⟨#[116]⟩ : ByteArray) 301) (tx 301) := Ends.of (fun k => spec_l1Many.mono _ _ k) many301
  refine ⟨rd houses (v * 6 / 18), n, rdOf ByteArray.empty texts u, ?_, ?_, k2, ?_⟩
  · unfold spec_DrawCatRecord.f
    simp only [ho, Option.bind_some]
    refine Ends.bind g1 ?_
    show Ends (fun k => if 0 ≤ wrap64 (Int.tdiv (wrap64 (v * 6)) 18) then _ else _) _
    simp only [gw]
    exact Ends.pos (by omega) (Ends.pos (by show v * 6 / 18 < ((6 : Nat) : Int); omega) (Ends.bind k1 (Ends.bind m1 (Ends.bind m2 (Ends.bind f1 (Ends.pos f2 (Ends.pos (by show u < ((5 : Nat) : Int); omega) (Ends.pure fun k => rfl))))))))
  · have : v * 6 / 18 = 0 ∨ v * 6 / 18 = 1 ∨ v * 6 / 18 = 2 ∨ v * 6 / 18 = 3 ∨ v * 6 / 18 = 4 ∨ v * 6 / 18 = 5 := by omega
    rcases this with e | e | e | e | e | e <;> rw [e] <;> decide
  · have : u = 0 ∨ u = 1 ∨ u = 2 ∨ u = 3 ∨ u = 4 := by omega
    rcases this with rfl | rfl | rfl | rfl | rfl <;> simp [rdOf, texts]
theorem fnRecord_pure : laws_FnCatRecord.Pure := by
  intro l0 hmax hsz hw
  by_cases hbig : (l0.length : Int) > 1048576
  · exact ⟨0, by unfold laws_FnCatRecord.f; rw [if_pos hbig]⟩
  · obtain ⟨h, n, t, e1, e2, e3, e4⟩ := drawRec_f hw
    have : Ends (fun k => laws_FnCatRecord.f k l0) true := by
      unfold laws_FnCatRecord.f
      exact Ends.neg hbig (Ends.bind e1 (rest_ends e2 e3 e4))
    exact this.get
end Go.Proofs.YtoohbmoljdfbjaaDoor.P
