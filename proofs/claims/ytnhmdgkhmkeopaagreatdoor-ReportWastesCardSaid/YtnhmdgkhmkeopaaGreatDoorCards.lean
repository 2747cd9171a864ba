/-
  DERIVED. GIVEN WITH THE SEED: THE CARDS: each row of YtnhmdgkhmkeopaaGreatDoorRows.lean that lists a variable, with what it lists TIED to the program's text (the seventh form; the later family's looks); each row that meets fmt, with fmt's text TOLD by the authors' own Lean function (tested against real Go, not proved from fmt's source: count such statements apart). THE CARD IS WHAT COUNTS. Prove the row's statement (the work); the ties are given (YtnhmdgkhmkeopaaGreatDoorTie.lean); close each card by the builder's one call (the guide's Derived/Test/ToyasCard.lean, 'card_holds'). Laid BY PROGRAM, IN A SANDBOX (cutbox-door.mjs). By AI agents, Wed Nov 11 2026. No macro, syntax, notation, axiom, sorry.
-/
import Derived.Test.YtnhmdgkhmkeopaaGreatDoorRows
import GoSem.ClaimSeven
namespace Go.Proofs.YtnhmdgkhmkeopaaGreatDoor
namespace Rows

/-- THE TIED CARD OF 'stirruplaw50.ReportSums'. -/
def reportSumsCard : Claim7 := { stood := { row := reportSumsRow, standIns := [], harness := (true, "c8de9afbb08b08c3f37163e0a9753f83a14bf9a4b3729dfd530a563e43ca8ea2"), looks := true }, kinds := [], alts := [], laidByText := true, laidKinds := [.data, .data, .data, .data, .sentinel, .sentinel, .listed, .data, .pinned], laidTests := true, laidLooks := .later }
def ReportSumsCardSaid : Prop := Claim7.holds Tryz.pinned (.plain (OpenSpec.ofChange reportSumsSpec)) reportSumsCard

/-- THE TIED CARD OF 'stirruplaw50.ReportFindings'. -/
def reportFindingsCard : Claim7 := { stood := { row := reportFindingsRow, standIns := [], harness := (true, "c8de9afbb08b08c3f37163e0a9753f83a14bf9a4b3729dfd530a563e43ca8ea2"), looks := true }, kinds := [], alts := [], laidByText := true, laidKinds := [.data, .data, .data, .data, .sentinel, .sentinel, .pinned], laidTests := true, laidLooks := .later }
def ReportFindingsCardSaid : Prop := Claim7.holds Tryz.pinned (.plain (OpenSpec.ofChange reportFindingsSpec)) reportFindingsCard

/-- THE TIED CARD OF 'stirruplaw50.ReportBack'. -/
def reportBackCard : Claim7 := { stood := { row := reportBackRow, standIns := [], harness := (true, "c8de9afbb08b08c3f37163e0a9753f83a14bf9a4b3729dfd530a563e43ca8ea2"), looks := true }, kinds := [], alts := [], laidByText := true, laidKinds := [.data, .data, .data, .data, .sentinel, .sentinel, .pinned], laidTests := true, laidLooks := .later }
def ReportBackCardSaid : Prop := Claim7.holds Tryz.pinned (.plain (OpenSpec.ofChange reportBackSpec)) reportBackCard

/-- THE TIED CARD OF 'stirruplaw50.ReportWastes'. -/
def reportWastesCard : Claim7 := { stood := { row := reportWastesRow, standIns := [], harness := (true, "c8de9afbb08b08c3f37163e0a9753f83a14bf9a4b3729dfd530a563e43ca8ea2"), looks := true }, kinds := [], alts := [], laidByText := true, laidKinds := [.data, .data, .data, .data, .sentinel, .sentinel, .listed, .data, .pinned], laidTests := true, laidLooks := .later }
def ReportWastesCardSaid : Prop := Claim7.holds Tryz.pinned (.plain (OpenSpec.ofChange reportWastesSpec)) reportWastesCard

/-- THE SECOND FORM's CARD OF 'stirruplaw50.ReportSums'. -/
def reportSumsUptoCard : Claim7 := { stood := { row := reportSumsUptoRow, standIns := [], harness := (true, "c8de9afbb08b08c3f37163e0a9753f83a14bf9a4b3729dfd530a563e43ca8ea2"), looks := true }, kinds := [], alts := [], laidByText := true, laidKinds := [.data, .data, .data, .data, .sentinel, .sentinel, .listed, .data, .pinned], laidTests := true, laidLooks := .later }
def ReportSumsUptoCardSaid : Prop := Claim7.holds Tryz.pinned (.plain (OpenSpec.upto reportSumsSpec)) reportSumsUptoCard

/-- THE SECOND FORM's CARD OF 'stirruplaw50.ReportFindings'. -/
def reportFindingsUptoCard : Claim7 := { stood := { row := reportFindingsUptoRow, standIns := [], harness := (true, "c8de9afbb08b08c3f37163e0a9753f83a14bf9a4b3729dfd530a563e43ca8ea2"), looks := true }, kinds := [], alts := [], laidByText := true, laidKinds := [.data, .data, .data, .data, .sentinel, .sentinel, .pinned], laidTests := true, laidLooks := .later }
def ReportFindingsUptoCardSaid : Prop := Claim7.holds Tryz.pinned (.plain (OpenSpec.upto reportFindingsSpec)) reportFindingsUptoCard

/-- THE SECOND FORM's CARD OF 'stirruplaw50.ReportBack'. -/
def reportBackUptoCard : Claim7 := { stood := { row := reportBackUptoRow, standIns := [], harness := (true, "c8de9afbb08b08c3f37163e0a9753f83a14bf9a4b3729dfd530a563e43ca8ea2"), looks := true }, kinds := [], alts := [], laidByText := true, laidKinds := [.data, .data, .data, .data, .sentinel, .sentinel, .pinned], laidTests := true, laidLooks := .later }
def ReportBackUptoCardSaid : Prop := Claim7.holds Tryz.pinned (.plain (OpenSpec.upto reportBackSpec)) reportBackUptoCard

/-- THE SECOND FORM's CARD OF 'stirruplaw50.ReportWastes'. -/
def reportWastesUptoCard : Claim7 := { stood := { row := reportWastesUptoRow, standIns := [], harness := (true, "c8de9afbb08b08c3f37163e0a9753f83a14bf9a4b3729dfd530a563e43ca8ea2"), looks := true }, kinds := [], alts := [], laidByText := true, laidKinds := [.data, .data, .data, .data, .sentinel, .sentinel, .listed, .data, .pinned], laidTests := true, laidLooks := .later }
def ReportWastesUptoCardSaid : Prop := Claim7.holds Tryz.pinned (.plain (OpenSpec.upto reportWastesSpec)) reportWastesUptoCard
end Rows
end Go.Proofs.YtnhmdgkhmkeopaaGreatDoor
