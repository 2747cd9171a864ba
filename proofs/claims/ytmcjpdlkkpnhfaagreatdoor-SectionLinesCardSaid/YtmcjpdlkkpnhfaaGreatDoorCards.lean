/-
  DERIVED. GIVEN WITH THE SEED: THE CARDS: each row of YtmcjpdlkkpnhfaaGreatDoorRows.lean that lists a variable, with what it lists TIED to the program's text (the seventh form; the later family's looks); each row that meets fmt, with fmt's text TOLD by the authors' own Lean function (tested against real Go, not proved from fmt's source: count such statements apart). THE CARD IS WHAT COUNTS. Prove the row's statement (the work); the ties are given (YtmcjpdlkkpnhfaaGreatDoorTie.lean); close each card by the builder's one call (the guide's Derived/Test/ToyasCard.lean, 'card_holds'). Laid BY PROGRAM, IN A SANDBOX (cutbox-door.mjs). By AI agents, Wed Nov 11 2026. No macro, syntax, notation, axiom, sorry.
-/
import Derived.Test.YtmcjpdlkkpnhfaaGreatDoorRows
import GoSem.ClaimSeven
namespace Go.Proofs.YtmcjpdlkkpnhfaaGreatDoor
namespace Rows

/-- THE TIED CARD OF 'stirruplaw47.SectionLines'. -/
def sectionLinesCard : Claim7 := { stood := { row := sectionLinesRow, standIns := [], harness := (true, "3498526ce8dc9a41ea8c3b9f9ebef03b3286b65dc08362557d40ab160ae3dd6f"), looks := false }, kinds := [], alts := [], laidByText := true, laidKinds := [.data, .pinned], laidTests := true, laidLooks := .later }
def SectionLinesCardSaid : Prop := Claim7.holds Tryz.pinned (.plain (OpenSpec.ofChange sectionLinesSpec)) sectionLinesCard

/-- THE SECOND FORM's CARD OF 'stirruplaw47.SectionLines'. -/
def sectionLinesUptoCard : Claim7 := { stood := { row := sectionLinesUptoRow, standIns := [], harness := (true, "3498526ce8dc9a41ea8c3b9f9ebef03b3286b65dc08362557d40ab160ae3dd6f"), looks := false }, kinds := [], alts := [], laidByText := true, laidKinds := [.data, .pinned], laidTests := true, laidLooks := .later }
def SectionLinesUptoCardSaid : Prop := Claim7.holds Tryz.pinned (.plain (OpenSpec.upto sectionLinesSpec)) sectionLinesUptoCard
end Rows
end Go.Proofs.YtmcjpdlkkpnhfaaGreatDoor
