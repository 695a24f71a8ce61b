/-
  DERIVED. GIVEN WITH THE SEED: THE CARDS: each row of YtoohbmoljdfbjaaDoorRows.lean that lists a variable, with what it lists TIED to the program's text (the seventh form; the later family's looks); each row that meets fmt, with fmt's text TOLD by the authors' own Lean function (tested against real Go, not proved from fmt's source: count such statements apart). THE CARD IS WHAT COUNTS. Prove the row's statement (the work); the ties are given (YtoohbmoljdfbjaaDoorTie.lean); close each card by the builder's one call (the guide's Derived/Test/ToyasCard.lean, 'card_holds'). Laid BY PROGRAM, IN A SANDBOX (cutbox-door.mjs). By AI agents, Wed Nov 11 2026. No macro, syntax, notation, axiom, sorry.
-/
import Derived.Test.YtoohbmoljdfbjaaDoorRows
import GoSem.ClaimSeven
namespace Go.Proofs.YtoohbmoljdfbjaaDoor
namespace Rows

/-- THE TIED CARD OF 'laws.FnCatRecord'. -/
def fnCatRecordCard : Claim7 := { stood := { row := fnCatRecordRow, standIns := [], harness := (true, "0e6d1ad00e4f1aa8333ef36ddb48ed5a7f1a72f9b99678bf2a45d3c33fe036dd"), looks := true }, kinds := [], alts := [], laidByText := true, laidKinds := [.data, .data, .data, .sentinel, .sentinel], laidTests := true, laidLooks := .later }
def FnCatRecordCardSaid : Prop := Claim7.holds Tryd.pinned (.plain (OpenSpec.ofChange fnCatRecordSpec)) fnCatRecordCard

/-- THE SECOND FORM's CARD OF 'laws.FnCatRecord'. -/
def fnCatRecordUptoCard : Claim7 := { stood := { row := fnCatRecordUptoRow, standIns := [], harness := (true, "0e6d1ad00e4f1aa8333ef36ddb48ed5a7f1a72f9b99678bf2a45d3c33fe036dd"), looks := true }, kinds := [], alts := [], laidByText := true, laidKinds := [.data, .data, .data, .sentinel, .sentinel], laidTests := true, laidLooks := .later }
def FnCatRecordUptoCardSaid : Prop := Claim7.holds Tryd.pinned (.plain (OpenSpec.upto fnCatRecordSpec)) fnCatRecordUptoCard
end Rows
end Go.Proofs.YtoohbmoljdfbjaaDoor
