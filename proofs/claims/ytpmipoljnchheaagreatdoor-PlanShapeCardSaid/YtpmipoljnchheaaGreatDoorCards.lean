/-
  DERIVED. GIVEN WITH THE SEED: THE CARDS: each row of YtpmipoljnchheaaGreatDoorRows.lean that lists a variable, with what it lists TIED to the program's text (the seventh form; the later family's looks); each row that meets fmt, with fmt's text TOLD by the authors' own Lean function (tested against real Go, not proved from fmt's source: count such statements apart). THE CARD IS WHAT COUNTS. Prove the row's statement (the work); the ties are given (YtpmipoljnchheaaGreatDoorTie.lean); close each card by the builder's one call (the guide's Derived/Test/ToyasCard.lean, 'card_holds'). Laid BY PROGRAM, IN A SANDBOX (cutbox-door.mjs). By AI agents, Wed Nov 11 2026. No macro, syntax, notation, axiom, sorry.
-/
import Derived.Test.YtpmipoljnchheaaGreatDoorRows
import GoSem.ClaimSeven
namespace Go.Proofs.YtpmipoljnchheaaGreatDoor
namespace Rows

/-- THE TIED CARD OF 'stirruplaw46.PlanShape'. -/
def planShapeCard : Claim7 := { stood := { row := planShapeRow, standIns := [], harness := (true, "3d0dcdb977ee4364e2fc0ff741c3acdbf920dadc73ce1f11f4b60aabcd2c5b50"), looks := false }, kinds := [], alts := [], laidByText := true, laidKinds := [.data, .pinned], laidTests := true, laidLooks := .later }
def PlanShapeCardSaid : Prop := Claim7.holds Tryz.pinned (.plain (OpenSpec.ofChange planShapeSpec)) planShapeCard

/-- THE SECOND FORM's CARD OF 'stirruplaw46.PlanShape'. -/
def planShapeUptoCard : Claim7 := { stood := { row := planShapeUptoRow, standIns := [], harness := (true, "3d0dcdb977ee4364e2fc0ff741c3acdbf920dadc73ce1f11f4b60aabcd2c5b50"), looks := false }, kinds := [], alts := [], laidByText := true, laidKinds := [.data, .pinned], laidTests := true, laidLooks := .later }
def PlanShapeUptoCardSaid : Prop := Claim7.holds Tryz.pinned (.plain (OpenSpec.upto planShapeSpec)) planShapeUptoCard
end Rows
end Go.Proofs.YtpmipoljnchheaaGreatDoor
