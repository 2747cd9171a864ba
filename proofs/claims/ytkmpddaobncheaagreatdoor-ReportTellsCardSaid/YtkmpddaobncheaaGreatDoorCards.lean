/-
  DERIVED. GIVEN WITH THE SEED: THE CARDS: each row of YtkmpddaobncheaaGreatDoorRows.lean that lists a variable, with what it lists TIED to the program's text (the seventh form; the later family's looks); each row that meets fmt, with fmt's text TOLD by the authors' own Lean function (tested against real Go, not proved from fmt's source: count such statements apart). THE CARD IS WHAT COUNTS. Prove the row's statement (the work); the ties are given (YtkmpddaobncheaaGreatDoorTie.lean); close each card by the builder's one call (the guide's Derived/Test/ToyasCard.lean, 'card_holds'). Laid BY PROGRAM, IN A SANDBOX (cutbox-door.mjs). By AI agents, Wed Nov 11 2026. No macro, syntax, notation, axiom, sorry.
-/
import Derived.Test.YtkmpddaobncheaaGreatDoorRows
import GoSem.ClaimSeven
namespace Go.Proofs.YtkmpddaobncheaaGreatDoor
namespace Rows

/-- THE TIED CARD OF 'stirruplaw50.ReportTells'. -/
def reportTellsCard : Claim7 := { stood := { row := reportTellsRow, standIns := [], harness := (true, "364062af7578886348dbf880e9a233954294f1145f71a496f6eb958c779258ce"), looks := true }, kinds := [], alts := [], laidByText := true, laidKinds := [.data, .data, .data, .data, .pinned], laidTests := true, laidLooks := .later }
def ReportTellsCardSaid : Prop := Claim7.holds Tryz.pinned (.plain (OpenSpec.ofChange reportTellsSpec)) reportTellsCard

/-- THE TIED CARD OF 'stirruplaw50.ReportPlans'. -/
def reportPlansCard : Claim7 := { stood := { row := reportPlansRow, standIns := [], harness := (true, "364062af7578886348dbf880e9a233954294f1145f71a496f6eb958c779258ce"), looks := true }, kinds := [], alts := [], laidByText := true, laidKinds := [.data, .data, .data], laidTests := true, laidLooks := .later }
def ReportPlansCardSaid : Prop := Claim7.holds Tryz.pinned (.plain (OpenSpec.ofChange reportPlansSpec)) reportPlansCard

/-- THE SECOND FORM's CARD OF 'stirruplaw50.ReportTells'. -/
def reportTellsUptoCard : Claim7 := { stood := { row := reportTellsUptoRow, standIns := [], harness := (true, "364062af7578886348dbf880e9a233954294f1145f71a496f6eb958c779258ce"), looks := true }, kinds := [], alts := [], laidByText := true, laidKinds := [.data, .data, .data, .data, .pinned], laidTests := true, laidLooks := .later }
def ReportTellsUptoCardSaid : Prop := Claim7.holds Tryz.pinned (.plain (OpenSpec.upto reportTellsSpec)) reportTellsUptoCard

/-- THE SECOND FORM's CARD OF 'stirruplaw50.ReportPlans'. -/
def reportPlansUptoCard : Claim7 := { stood := { row := reportPlansUptoRow, standIns := [], harness := (true, "364062af7578886348dbf880e9a233954294f1145f71a496f6eb958c779258ce"), looks := true }, kinds := [], alts := [], laidByText := true, laidKinds := [.data, .data, .data], laidTests := true, laidLooks := .later }
def ReportPlansUptoCardSaid : Prop := Claim7.holds Tryz.pinned (.plain (OpenSpec.upto reportPlansSpec)) reportPlansUptoCard
end Rows
end Go.Proofs.YtkmpddaobncheaaGreatDoor
