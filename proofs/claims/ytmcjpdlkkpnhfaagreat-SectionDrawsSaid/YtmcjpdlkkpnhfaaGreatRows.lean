/-
  No cell of these rows narrows 'for every input' (looked for: loops, veiled, ifaces, maps, wideKeys, modest, calm, conditions, laid).
  DERIVED. THE GIVEN ROWS OF THIS SEAT. 4 by the template 'for every input the law returns true; each argument reads behind the call as it read before'; 0 by the template 'total and deterministic' (their statements: YtmcjpdlkkpnhfaaGreatTotals.lean).
  GIVEN WITH THE SEED: the statements are not yours to turn. If you find one false, say at which input.
  Laid BY PROGRAM, IN A SANDBOX (cutbox-rows.mjs): the forced cells as the released guide's own fill.sh prints them over the translation cfac2121fb3d79d5… (all of the seat's roots in one cut). By AI agents, Wed Nov 11 2026. No macro, syntax, notation, axiom, sorry.
-/
import Derived.Test.YtmcjpdlkkpnhfaaGreatChecked
import GoSem.Claim
import GoSem.ClaimJoined
import GoSem.ClaimMapViews
import Derived.JoinedTies
import Derived.KernelRfl
namespace Go.Proofs.YtmcjpdlkkpnhfaaGreat
/- THE CELL 'sum', in the pinned program and in every row, IS THE sha256 OF THE DUMP (.gsa) THAT YtmcjpdlkkpnhfaaGreatProg.lean LOADS. Nothing in Lean hashes anything: it is a label: what it is worth is what the hold of that sum in a sandbox is worth. -/
noncomputable def Tryz.pinned : Pinned := { name := "ytmcjpdlkkpnhfaagreat", sum := "cfac2121fb3d79d56865a82c84d7c1e4f8bb1036cc471d72a93cbec3ed963a5e", checked := Tryz.checked }
namespace Rows
def none {H : Type} : Left H := { results := [], args := [] }

/-- 'stirruplaw47.SectionDraws': WHATEVER THE INPUT: true; the input reads as it did. -/
def sectionDrawsSpec : ChangeSpec := { name := "sectionDraws", fn := fun _ => fun
  | [d1, d2, d3] => { results := [.lit (.bool true)], args := [d1, d2, d3] }
  | _ => none }
def sectionDrawsRow : OpenClaim := { program := "ytmcjpdlkkpnhfaagreat", sum := "cfac2121fb3d79d56865a82c84d7c1e4f8bb1036cc471d72a93cbec3ed963a5e", func := "stirrup/stirruplaw47.SectionDraws", spec := "sectionDraws", inPlace := ["internal/bytealg.MakeNoZero"], unfollowed := true, recurses := true, apart := false }
def SectionDrawsSaid : Prop := sectionDrawsRow.holds Tryz.pinned (OpenSpec.ofChange sectionDrawsSpec)

/-- ITS FALSE NEIGHBOUR: 'it returns false'. Refute it at one input. -/
def sectionDrawsWrong : ChangeSpec := { name := "sectionDraws", fn := fun _ => fun
  | [d1, d2, d3] => { results := [.lit (.bool false)], args := [d1, d2, d3] }
  | _ => none }
def SectionDrawsWrongFalsely : Prop := sectionDrawsRow.holds Tryz.pinned (OpenSpec.ofChange sectionDrawsWrong)

/-- 'stirruplaw47.SectionSame': WHATEVER THE INPUT: true; the input reads as it did. -/
def sectionSameSpec : ChangeSpec := { name := "sectionSame", fn := fun _ => fun
  | [d1, d2, d3] => { results := [.lit (.bool true)], args := [d1, d2, d3] }
  | _ => none }
def sectionSameRow : OpenClaim := { program := "ytmcjpdlkkpnhfaagreat", sum := "cfac2121fb3d79d56865a82c84d7c1e4f8bb1036cc471d72a93cbec3ed963a5e", func := "stirrup/stirruplaw47.SectionSame", spec := "sectionSame", inPlace := ["internal/bytealg.MakeNoZero"], unfollowed := true, recurses := true, apart := false }
def SectionSameSaid : Prop := sectionSameRow.holds Tryz.pinned (OpenSpec.ofChange sectionSameSpec)

/-- ITS FALSE NEIGHBOUR: 'it returns false'. Refute it at one input. -/
def sectionSameWrong : ChangeSpec := { name := "sectionSame", fn := fun _ => fun
  | [d1, d2, d3] => { results := [.lit (.bool false)], args := [d1, d2, d3] }
  | _ => none }
def SectionSameWrongFalsely : Prop := sectionSameRow.holds Tryz.pinned (OpenSpec.ofChange sectionSameWrong)

/-- 'stirruplaw47.SectionCuts': WHATEVER THE INPUT: true; the input reads as it did. -/
def sectionCutsSpec : ChangeSpec := { name := "sectionCuts", fn := fun _ => fun
  | [d1, d2] => { results := [.lit (.bool true)], args := [d1, d2] }
  | _ => none }
def sectionCutsRow : OpenClaim := { program := "ytmcjpdlkkpnhfaagreat", sum := "cfac2121fb3d79d56865a82c84d7c1e4f8bb1036cc471d72a93cbec3ed963a5e", func := "stirrup/stirruplaw47.SectionCuts", spec := "sectionCuts", inPlace := ["internal/bytealg.MakeNoZero"], unfollowed := true, recurses := true, apart := false }
def SectionCutsSaid : Prop := sectionCutsRow.holds Tryz.pinned (OpenSpec.ofChange sectionCutsSpec)

/-- ITS FALSE NEIGHBOUR: 'it returns false'. Refute it at one input. -/
def sectionCutsWrong : ChangeSpec := { name := "sectionCuts", fn := fun _ => fun
  | [d1, d2] => { results := [.lit (.bool false)], args := [d1, d2] }
  | _ => none }
def SectionCutsWrongFalsely : Prop := sectionCutsRow.holds Tryz.pinned (OpenSpec.ofChange sectionCutsWrong)

/-- 'stirruplaw47.SectionHas': WHATEVER THE INPUT: true; the input reads as it did. -/
def sectionHasSpec : ChangeSpec := { name := "sectionHas", fn := fun _ => fun
  | [d1, d2] => { results := [.lit (.bool true)], args := [d1, d2] }
  | _ => none }
def sectionHasRow : OpenClaim := { program := "ytmcjpdlkkpnhfaagreat", sum := "cfac2121fb3d79d56865a82c84d7c1e4f8bb1036cc471d72a93cbec3ed963a5e", func := "stirrup/stirruplaw47.SectionHas", spec := "sectionHas", inPlace := ["internal/bytealg.MakeNoZero"], unfollowed := true, recurses := true, apart := false }
def SectionHasSaid : Prop := sectionHasRow.holds Tryz.pinned (OpenSpec.ofChange sectionHasSpec)

/-- ITS FALSE NEIGHBOUR: 'it returns false'. Refute it at one input. -/
def sectionHasWrong : ChangeSpec := { name := "sectionHas", fn := fun _ => fun
  | [d1, d2] => { results := [.lit (.bool false)], args := [d1, d2] }
  | _ => none }
def SectionHasWrongFalsely : Prop := sectionHasRow.holds Tryz.pinned (OpenSpec.ofChange sectionHasWrong)

/- THE SECOND FORM. 'bulk': how many values and letters a reading holds, each counted each time it is reached (what is shared counts as often as it is met; a slice's spare places count too). A statement '..UptoSaid' is the law's where the arguments, and the package variables that the reading takes, are together of bulk at most 1048576: NARROWER than '..Said'. Prove '..Said' where nothing that the law and all that it calls make is longer than what came in: it says more and counts as full. Else prove '..UptoSaid'. A law counts once. -/
mutual
def uptoBulk {H : Type} : DataW H → Nat
  | .lit (.string bytes) => bytes.length + 1
  | .lit _ => 1
  | .nil => 1
  | .ptr d => uptoBulk d + 1
  | .slice elems spare => uptoBulkAll elems + uptoBulkAll spare + 1
  | .agg parts => uptoBulkAll parts + 1
  | .iface _ d => uptoBulk d + 1
  | .map entries => uptoBulkEntries entries + 1
  | .held _ => 1
def uptoBulkAll {H : Type} : List (DataW H) → Nat
  | [] => 0
  | d :: r => uptoBulk d + uptoBulkAll r
def uptoBulkEntries {H : Type} : List (Lit × DataW H) → Nat
  | [] => 0
  | x :: r => uptoBulkEntry x + uptoBulkEntries r
def uptoBulkEntry {H : Type} : Lit × DataW H → Nat
  | (.string bytes, d) => bytes.length + uptoBulk d + 1
  | (_, d) => uptoBulk d + 1
 end
def uptoSmall : (H : Type) → List (DataW H) → Bool := fun _ ds => decide (uptoBulkAll ds ≤ 1048576)
def OpenSpec.upto (s : _root_.Go.ChangeSpec) : _root_.Go.OpenSpec := { _root_.Go.OpenSpec.ofChange s with cond := some uptoSmall }

/-- 'stirruplaw47.SectionDraws', WHERE WHAT IT READS IS OF BULK AT MOST 1048576: true; the input reads as it did. -/
def sectionDrawsUptoRow : OpenClaim := { program := "ytmcjpdlkkpnhfaagreat", sum := "cfac2121fb3d79d56865a82c84d7c1e4f8bb1036cc471d72a93cbec3ed963a5e", func := "stirrup/stirruplaw47.SectionDraws", spec := "sectionDraws", inPlace := ["internal/bytealg.MakeNoZero"], unfollowed := true, recurses := true, apart := false, narrowed := true }
def SectionDrawsUptoSaid : Prop := sectionDrawsUptoRow.holds Tryz.pinned (OpenSpec.upto sectionDrawsSpec)

/-- 'stirruplaw47.SectionSame', WHERE WHAT IT READS IS OF BULK AT MOST 1048576: true; the input reads as it did. -/
def sectionSameUptoRow : OpenClaim := { program := "ytmcjpdlkkpnhfaagreat", sum := "cfac2121fb3d79d56865a82c84d7c1e4f8bb1036cc471d72a93cbec3ed963a5e", func := "stirrup/stirruplaw47.SectionSame", spec := "sectionSame", inPlace := ["internal/bytealg.MakeNoZero"], unfollowed := true, recurses := true, apart := false, narrowed := true }
def SectionSameUptoSaid : Prop := sectionSameUptoRow.holds Tryz.pinned (OpenSpec.upto sectionSameSpec)

/-- 'stirruplaw47.SectionCuts', WHERE WHAT IT READS IS OF BULK AT MOST 1048576: true; the input reads as it did. -/
def sectionCutsUptoRow : OpenClaim := { program := "ytmcjpdlkkpnhfaagreat", sum := "cfac2121fb3d79d56865a82c84d7c1e4f8bb1036cc471d72a93cbec3ed963a5e", func := "stirrup/stirruplaw47.SectionCuts", spec := "sectionCuts", inPlace := ["internal/bytealg.MakeNoZero"], unfollowed := true, recurses := true, apart := false, narrowed := true }
def SectionCutsUptoSaid : Prop := sectionCutsUptoRow.holds Tryz.pinned (OpenSpec.upto sectionCutsSpec)

/-- 'stirruplaw47.SectionHas', WHERE WHAT IT READS IS OF BULK AT MOST 1048576: true; the input reads as it did. -/
def sectionHasUptoRow : OpenClaim := { program := "ytmcjpdlkkpnhfaagreat", sum := "cfac2121fb3d79d56865a82c84d7c1e4f8bb1036cc471d72a93cbec3ed963a5e", func := "stirrup/stirruplaw47.SectionHas", spec := "sectionHas", inPlace := ["internal/bytealg.MakeNoZero"], unfollowed := true, recurses := true, apart := false, narrowed := true }
def SectionHasUptoSaid : Prop := sectionHasUptoRow.holds Tryz.pinned (OpenSpec.upto sectionHasSpec)

end Rows
end Go.Proofs.YtmcjpdlkkpnhfaaGreat
