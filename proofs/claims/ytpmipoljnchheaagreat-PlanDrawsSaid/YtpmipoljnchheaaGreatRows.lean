/-
  No cell of these rows narrows 'for every input' (looked for: loops, veiled, ifaces, maps, wideKeys, modest, calm, conditions, laid).
  DERIVED. THE GIVEN ROWS OF THIS SEAT. 5 by the template 'for every input the law returns true; each argument reads behind the call as it read before'; 0 by the template 'total and deterministic' (their statements: YtpmipoljnchheaaGreatTotals.lean).
  GIVEN WITH THE SEED: the statements are not yours to turn. If you find one false, say at which input.
  Laid BY PROGRAM, IN A SANDBOX (cutbox-rows.mjs): the forced cells as the released guide's own fill.sh prints them over the translation c342187d716687dd… (all of the seat's roots in one cut). By AI agents, Wed Nov 11 2026. No macro, syntax, notation, axiom, sorry.
-/
import Derived.Test.YtpmipoljnchheaaGreatChecked
import GoSem.Claim
import GoSem.ClaimJoined
import GoSem.ClaimMapViews
import Derived.JoinedTies
import Derived.KernelRfl
namespace Go.Proofs.YtpmipoljnchheaaGreat
/- THE CELL 'sum', in the pinned program and in every row, IS THE sha256 OF THE DUMP (.gsa) THAT YtpmipoljnchheaaGreatProg.lean LOADS. Nothing in Lean hashes anything: it is a label: what it is worth is what the hold of that sum in a sandbox is worth. -/
noncomputable def Tryz.pinned : Pinned := { name := "ytpmipoljnchheaagreat", sum := "c342187d716687dd0dae3205e2f88ad02be78f22abe5d8aaf793008acc52b18a", checked := Tryz.checked }
namespace Rows
def none {H : Type} : Left H := { results := [], args := [] }

/-- 'stirruplaw46.PlanDraws': WHATEVER THE INPUT: true; the input reads as it did. -/
def planDrawsSpec : ChangeSpec := { name := "planDraws", fn := fun _ => fun
  | [d1, d2] => { results := [.lit (.bool true)], args := [d1, d2] }
  | _ => none }
def planDrawsRow : OpenClaim := { program := "ytpmipoljnchheaagreat", sum := "c342187d716687dd0dae3205e2f88ad02be78f22abe5d8aaf793008acc52b18a", func := "stirrup/stirruplaw46.PlanDraws", spec := "planDraws", inPlace := ["internal/abi.NoEscape"], unfollowed := true, recurses := true, apart := false }
def PlanDrawsSaid : Prop := planDrawsRow.holds Tryz.pinned (OpenSpec.ofChange planDrawsSpec)

/-- ITS FALSE NEIGHBOUR: 'it returns false'. Refute it at one input. -/
def planDrawsWrong : ChangeSpec := { name := "planDraws", fn := fun _ => fun
  | [d1, d2] => { results := [.lit (.bool false)], args := [d1, d2] }
  | _ => none }
def PlanDrawsWrongFalsely : Prop := planDrawsRow.holds Tryz.pinned (OpenSpec.ofChange planDrawsWrong)

/-- 'stirruplaw46.PlanSizes': WHATEVER THE INPUT: true; the input reads as it did. -/
def planSizesSpec : ChangeSpec := { name := "planSizes", fn := fun _ => fun
  | [d1, d2, d3] => { results := [.lit (.bool true)], args := [d1, d2, d3] }
  | _ => none }
def planSizesRow : OpenClaim := { program := "ytpmipoljnchheaagreat", sum := "c342187d716687dd0dae3205e2f88ad02be78f22abe5d8aaf793008acc52b18a", func := "stirrup/stirruplaw46.PlanSizes", spec := "planSizes", inPlace := ["internal/abi.NoEscape"], unfollowed := true, recurses := true, apart := false }
def PlanSizesSaid : Prop := planSizesRow.holds Tryz.pinned (OpenSpec.ofChange planSizesSpec)

/-- ITS FALSE NEIGHBOUR: 'it returns false'. Refute it at one input. -/
def planSizesWrong : ChangeSpec := { name := "planSizes", fn := fun _ => fun
  | [d1, d2, d3] => { results := [.lit (.bool false)], args := [d1, d2, d3] }
  | _ => none }
def PlanSizesWrongFalsely : Prop := planSizesRow.holds Tryz.pinned (OpenSpec.ofChange planSizesWrong)

/-- 'stirruplaw46.PlanCoarser': WHATEVER THE INPUT: true; the input reads as it did. -/
def planCoarserSpec : ChangeSpec := { name := "planCoarser", fn := fun _ => fun
  | [d1, d2, d3, d4] => { results := [.lit (.bool true)], args := [d1, d2, d3, d4] }
  | _ => none }
def planCoarserRow : OpenClaim := { program := "ytpmipoljnchheaagreat", sum := "c342187d716687dd0dae3205e2f88ad02be78f22abe5d8aaf793008acc52b18a", func := "stirrup/stirruplaw46.PlanCoarser", spec := "planCoarser", inPlace := ["internal/abi.NoEscape"], unfollowed := true, recurses := true, apart := false }
def PlanCoarserSaid : Prop := planCoarserRow.holds Tryz.pinned (OpenSpec.ofChange planCoarserSpec)

/-- ITS FALSE NEIGHBOUR: 'it returns false'. Refute it at one input. -/
def planCoarserWrong : ChangeSpec := { name := "planCoarser", fn := fun _ => fun
  | [d1, d2, d3, d4] => { results := [.lit (.bool false)], args := [d1, d2, d3, d4] }
  | _ => none }
def PlanCoarserWrongFalsely : Prop := planCoarserRow.holds Tryz.pinned (OpenSpec.ofChange planCoarserWrong)

/-- 'stirruplaw46.PlanCells': WHATEVER THE INPUT: true; the input reads as it did. -/
def planCellsSpec : ChangeSpec := { name := "planCells", fn := fun _ => fun
  | [d1, d2, d3, d4] => { results := [.lit (.bool true)], args := [d1, d2, d3, d4] }
  | _ => none }
def planCellsRow : OpenClaim := { program := "ytpmipoljnchheaagreat", sum := "c342187d716687dd0dae3205e2f88ad02be78f22abe5d8aaf793008acc52b18a", func := "stirrup/stirruplaw46.PlanCells", spec := "planCells", inPlace := ["internal/abi.NoEscape"], unfollowed := true, recurses := true, apart := false }
def PlanCellsSaid : Prop := planCellsRow.holds Tryz.pinned (OpenSpec.ofChange planCellsSpec)

/-- ITS FALSE NEIGHBOUR: 'it returns false'. Refute it at one input. -/
def planCellsWrong : ChangeSpec := { name := "planCells", fn := fun _ => fun
  | [d1, d2, d3, d4] => { results := [.lit (.bool false)], args := [d1, d2, d3, d4] }
  | _ => none }
def PlanCellsWrongFalsely : Prop := planCellsRow.holds Tryz.pinned (OpenSpec.ofChange planCellsWrong)

/-- 'stirruplaw46.PlanSeen': WHATEVER THE INPUT: true; the input reads as it did. -/
def planSeenSpec : ChangeSpec := { name := "planSeen", fn := fun _ => fun
  | [d1, d2, d3, d4] => { results := [.lit (.bool true)], args := [d1, d2, d3, d4] }
  | _ => none }
def planSeenRow : OpenClaim := { program := "ytpmipoljnchheaagreat", sum := "c342187d716687dd0dae3205e2f88ad02be78f22abe5d8aaf793008acc52b18a", func := "stirrup/stirruplaw46.PlanSeen", spec := "planSeen", inPlace := ["internal/abi.NoEscape"], unfollowed := true, recurses := true, apart := false }
def PlanSeenSaid : Prop := planSeenRow.holds Tryz.pinned (OpenSpec.ofChange planSeenSpec)

/-- ITS FALSE NEIGHBOUR: 'it returns false'. Refute it at one input. -/
def planSeenWrong : ChangeSpec := { name := "planSeen", fn := fun _ => fun
  | [d1, d2, d3, d4] => { results := [.lit (.bool false)], args := [d1, d2, d3, d4] }
  | _ => none }
def PlanSeenWrongFalsely : Prop := planSeenRow.holds Tryz.pinned (OpenSpec.ofChange planSeenWrong)

/- THE SECOND FORM. 'bulk': how many values and letters a reading holds, each counted each time it is reached (what is shared counts as often as it is met; a slice's spare places count too). A statement '..UptoSaid' is the law's where the arguments, and the package variables that the reading takes, are together of bulk at most 1048576: NARROWER than '..Said'. Prove '..Said' where nothing that the law and all that it calls make is longer than what came in: it says more and counts as full. Else prove '..UptoSaid'. A law counts once. -/
mutual
def uptoBulk {H : Type} : DataW H → Nat
  | .lit (.string bytes) => bytes.length + 1
  | .lit _ => 1
  | .nil => 1
  | .ptr d => uptoBulk d + 1
  | .slice elems spare => uptoBulkAll elems + uptoBulkAll spare + 1
  | .agg parts => uptoBulkAll parts + 1
  | .iface _ d => uptoBulk d + 1
  | .map entries => uptoBulkEntries entries + 1
  | .held _ => 1
def uptoBulkAll {H : Type} : List (DataW H) → Nat
  | [] => 0
  | d :: r => uptoBulk d + uptoBulkAll r
def uptoBulkEntries {H : Type} : List (Lit × DataW H) → Nat
  | [] => 0
  | x :: r => uptoBulkEntry x + uptoBulkEntries r
def uptoBulkEntry {H : Type} : Lit × DataW H → Nat
  | (.string bytes, d) => bytes.length + uptoBulk d + 1
  | (_, d) => uptoBulk d + 1
 end
def uptoSmall : (H : Type) → List (DataW H) → Bool := fun _ ds => decide (uptoBulkAll ds ≤ 1048576)
def OpenSpec.upto (s : _root_.Go.ChangeSpec) : _root_.Go.OpenSpec := { _root_.Go.OpenSpec.ofChange s with cond := some uptoSmall }

/-- 'stirruplaw46.PlanDraws', WHERE WHAT IT READS IS OF BULK AT MOST 1048576: true; the input reads as it did. -/
def planDrawsUptoRow : OpenClaim := { program := "ytpmipoljnchheaagreat", sum := "c342187d716687dd0dae3205e2f88ad02be78f22abe5d8aaf793008acc52b18a", func := "stirrup/stirruplaw46.PlanDraws", spec := "planDraws", inPlace := ["internal/abi.NoEscape"], unfollowed := true, recurses := true, apart := false, narrowed := true }
def PlanDrawsUptoSaid : Prop := planDrawsUptoRow.holds Tryz.pinned (OpenSpec.upto planDrawsSpec)

/-- 'stirruplaw46.PlanSizes', WHERE WHAT IT READS IS OF BULK AT MOST 1048576: true; the input reads as it did. -/
def planSizesUptoRow : OpenClaim := { program := "ytpmipoljnchheaagreat", sum := "c342187d716687dd0dae3205e2f88ad02be78f22abe5d8aaf793008acc52b18a", func := "stirrup/stirruplaw46.PlanSizes", spec := "planSizes", inPlace := ["internal/abi.NoEscape"], unfollowed := true, recurses := true, apart := false, narrowed := true }
def PlanSizesUptoSaid : Prop := planSizesUptoRow.holds Tryz.pinned (OpenSpec.upto planSizesSpec)

/-- 'stirruplaw46.PlanCoarser', WHERE WHAT IT READS IS OF BULK AT MOST 1048576: true; the input reads as it did. -/
def planCoarserUptoRow : OpenClaim := { program := "ytpmipoljnchheaagreat", sum := "c342187d716687dd0dae3205e2f88ad02be78f22abe5d8aaf793008acc52b18a", func := "stirrup/stirruplaw46.PlanCoarser", spec := "planCoarser", inPlace := ["internal/abi.NoEscape"], unfollowed := true, recurses := true, apart := false, narrowed := true }
def PlanCoarserUptoSaid : Prop := planCoarserUptoRow.holds Tryz.pinned (OpenSpec.upto planCoarserSpec)

/-- 'stirruplaw46.PlanCells', WHERE WHAT IT READS IS OF BULK AT MOST 1048576: true; the input reads as it did. -/
def planCellsUptoRow : OpenClaim := { program := "ytpmipoljnchheaagreat", sum := "c342187d716687dd0dae3205e2f88ad02be78f22abe5d8aaf793008acc52b18a", func := "stirrup/stirruplaw46.PlanCells", spec := "planCells", inPlace := ["internal/abi.NoEscape"], unfollowed := true, recurses := true, apart := false, narrowed := true }
def PlanCellsUptoSaid : Prop := planCellsUptoRow.holds Tryz.pinned (OpenSpec.upto planCellsSpec)

/-- 'stirruplaw46.PlanSeen', WHERE WHAT IT READS IS OF BULK AT MOST 1048576: true; the input reads as it did. -/
def planSeenUptoRow : OpenClaim := { program := "ytpmipoljnchheaagreat", sum := "c342187d716687dd0dae3205e2f88ad02be78f22abe5d8aaf793008acc52b18a", func := "stirrup/stirruplaw46.PlanSeen", spec := "planSeen", inPlace := ["internal/abi.NoEscape"], unfollowed := true, recurses := true, apart := false, narrowed := true }
def PlanSeenUptoSaid : Prop := planSeenUptoRow.holds Tryz.pinned (OpenSpec.upto planSeenSpec)

end Rows
end Go.Proofs.YtpmipoljnchheaaGreat
