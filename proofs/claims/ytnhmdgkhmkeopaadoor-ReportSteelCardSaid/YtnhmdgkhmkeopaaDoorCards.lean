/-
  DERIVED. GIVEN WITH THE SEED: THE CARDS: each row of YtnhmdgkhmkeopaaDoorRows.lean that lists a variable, with what it lists TIED to the program's text (the seventh form; the later family's looks); each row that meets fmt, with fmt's text TOLD by the authors' own Lean function (tested against real Go, not proved from fmt's source: count such statements apart). THE CARD IS WHAT COUNTS. Prove the row's statement (the work); the ties are given (YtnhmdgkhmkeopaaDoorTie.lean); close each card by the builder's one call (the guide's Derived/Test/ToyasCard.lean, 'card_holds'). Laid BY PROGRAM, IN A SANDBOX (cutbox-door.mjs). By AI agents, Wed Nov 11 2026. No macro, syntax, notation, axiom, sorry.
-/
import Derived.Test.YtnhmdgkhmkeopaaDoorRows
import GoSem.ClaimSeven
namespace Go.Proofs.YtnhmdgkhmkeopaaDoor
namespace Rows

/-- THE TIED CARD OF 'stirruplaw50.ReportSteel'. -/
def reportSteelCard : Claim7 := { stood := { row := reportSteelRow, standIns := [], harness := (true, "755a82596aad1b48300d49d5e6f27a4b33fbdb0649dcba46294b2ed88233ec36"), looks := true }, kinds := [], alts := [], laidByText := true, laidKinds := [.data, .data, .data], laidTests := true, laidLooks := .later }
def ReportSteelCardSaid : Prop := Claim7.holds Tryd.pinned (.plain (OpenSpec.ofChange reportSteelSpec)) reportSteelCard

/-- THE SECOND FORM's CARD OF 'stirruplaw50.ReportSteel'. -/
def reportSteelUptoCard : Claim7 := { stood := { row := reportSteelUptoRow, standIns := [], harness := (true, "755a82596aad1b48300d49d5e6f27a4b33fbdb0649dcba46294b2ed88233ec36"), looks := true }, kinds := [], alts := [], laidByText := true, laidKinds := [.data, .data, .data], laidTests := true, laidLooks := .later }
def ReportSteelUptoCardSaid : Prop := Claim7.holds Tryd.pinned (.plain (OpenSpec.upto reportSteelSpec)) reportSteelUptoCard
end Rows
end Go.Proofs.YtnhmdgkhmkeopaaDoor
