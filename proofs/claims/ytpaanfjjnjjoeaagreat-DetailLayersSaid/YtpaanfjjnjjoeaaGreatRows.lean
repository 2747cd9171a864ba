/-
  No cell of these rows narrows 'for every input' (looked for: loops, veiled, ifaces, maps, wideKeys, modest, calm, conditions, laid).
  DERIVED. THE GIVEN ROWS OF THIS SEAT. 7 by the template 'for every input the law returns true; each argument reads behind the call as it read before'; 0 by the template 'total and deterministic' (their statements: YtpaanfjjnjjoeaaGreatTotals.lean).
  GIVEN WITH THE SEED: the statements are not yours to turn. If you find one false, say at which input.
  Laid BY PROGRAM, IN A SANDBOX (cutbox-rows.mjs): the forced cells as the released guide's own fill.sh prints them over the translation f8ef0cad9e081b5c… (all of the seat's roots in one cut). By AI agents, Wed Nov 11 2026. No macro, syntax, notation, axiom, sorry.
-/
import Derived.Test.YtpaanfjjnjjoeaaGreatChecked
import GoSem.Claim
import GoSem.ClaimJoined
import GoSem.ClaimMapViews
import Derived.JoinedTies
import Derived.KernelRfl
namespace Go.Proofs.YtpaanfjjnjjoeaaGreat
/- THE CELL 'sum', in the pinned program and in every row, IS THE sha256 OF THE DUMP (.gsa) THAT YtpaanfjjnjjoeaaGreatProg.lean LOADS. Nothing in Lean hashes anything: it is a label: what it is worth is what the hold of that sum in a sandbox is worth. -/
noncomputable def Tryz.pinned : Pinned := { name := "ytpaanfjjnjjoeaagreat", sum := "f8ef0cad9e081b5cbce86d9d85a85ef6e0e93a144f49f85f59d9f6eeb217f890", checked := Tryz.checked }
namespace Rows
def none {H : Type} : Left H := { results := [], args := [] }

/-- 'stirruplaw49.DetailChecks': WHATEVER THE INPUT: true; the input reads as it did. -/
def detailChecksSpec : ChangeSpec := { name := "detailChecks", fn := fun _ => fun
  | [d] => { results := [.lit (.bool true)], args := [d] }
  | _ => none }
def detailChecksRow : OpenClaim := { program := "ytpaanfjjnjjoeaagreat", sum := "f8ef0cad9e081b5cbce86d9d85a85ef6e0e93a144f49f85f59d9f6eeb217f890", func := "stirrup/stirruplaw49.DetailChecks", spec := "detailChecks", unfollowed := true, recurses := true, apart := false }
def DetailChecksSaid : Prop := detailChecksRow.holds Tryz.pinned (OpenSpec.ofChange detailChecksSpec)

/-- ITS FALSE NEIGHBOUR: 'it returns false'. Refute it at one input. -/
def detailChecksWrong : ChangeSpec := { name := "detailChecks", fn := fun _ => fun
  | [d] => { results := [.lit (.bool false)], args := [d] }
  | _ => none }
def DetailChecksWrongFalsely : Prop := detailChecksRow.holds Tryz.pinned (OpenSpec.ofChange detailChecksWrong)

/-- 'stirruplaw49.DetailLayers': WHATEVER THE INPUT: true; the input reads as it did. -/
def detailLayersSpec : ChangeSpec := { name := "detailLayers", fn := fun _ => fun
  | [d] => { results := [.lit (.bool true)], args := [d] }
  | _ => none }
def detailLayersRow : OpenClaim := { program := "ytpaanfjjnjjoeaagreat", sum := "f8ef0cad9e081b5cbce86d9d85a85ef6e0e93a144f49f85f59d9f6eeb217f890", func := "stirrup/stirruplaw49.DetailLayers", spec := "detailLayers", unfollowed := true, recurses := true, apart := false }
def DetailLayersSaid : Prop := detailLayersRow.holds Tryz.pinned (OpenSpec.ofChange detailLayersSpec)

/-- ITS FALSE NEIGHBOUR: 'it returns false'. Refute it at one input. -/
def detailLayersWrong : ChangeSpec := { name := "detailLayers", fn := fun _ => fun
  | [d] => { results := [.lit (.bool false)], args := [d] }
  | _ => none }
def DetailLayersWrongFalsely : Prop := detailLayersRow.holds Tryz.pinned (OpenSpec.ofChange detailLayersWrong)

/-- 'stirruplaw49.DetailForms': WHATEVER THE INPUT: true; the input reads as it did. -/
def detailFormsSpec : ChangeSpec := { name := "detailForms", fn := fun _ => fun
  | [d1, d2] => { results := [.lit (.bool true)], args := [d1, d2] }
  | _ => none }
def detailFormsRow : OpenClaim := { program := "ytpaanfjjnjjoeaagreat", sum := "f8ef0cad9e081b5cbce86d9d85a85ef6e0e93a144f49f85f59d9f6eeb217f890", func := "stirrup/stirruplaw49.DetailForms", spec := "detailForms", unfollowed := true, recurses := true, apart := false }
def DetailFormsSaid : Prop := detailFormsRow.holds Tryz.pinned (OpenSpec.ofChange detailFormsSpec)

/-- ITS FALSE NEIGHBOUR: 'it returns false'. Refute it at one input. -/
def detailFormsWrong : ChangeSpec := { name := "detailForms", fn := fun _ => fun
  | [d1, d2] => { results := [.lit (.bool false)], args := [d1, d2] }
  | _ => none }
def DetailFormsWrongFalsely : Prop := detailFormsRow.holds Tryz.pinned (OpenSpec.ofChange detailFormsWrong)

/-- 'stirruplaw49.DetailCopies': WHATEVER THE INPUT: true; the input reads as it did. -/
def detailCopiesSpec : ChangeSpec := { name := "detailCopies", fn := fun _ => fun
  | [d1, d2] => { results := [.lit (.bool true)], args := [d1, d2] }
  | _ => none }
def detailCopiesRow : OpenClaim := { program := "ytpaanfjjnjjoeaagreat", sum := "f8ef0cad9e081b5cbce86d9d85a85ef6e0e93a144f49f85f59d9f6eeb217f890", func := "stirrup/stirruplaw49.DetailCopies", spec := "detailCopies", unfollowed := true, recurses := true, apart := false }
def DetailCopiesSaid : Prop := detailCopiesRow.holds Tryz.pinned (OpenSpec.ofChange detailCopiesSpec)

/-- ITS FALSE NEIGHBOUR: 'it returns false'. Refute it at one input. -/
def detailCopiesWrong : ChangeSpec := { name := "detailCopies", fn := fun _ => fun
  | [d1, d2] => { results := [.lit (.bool false)], args := [d1, d2] }
  | _ => none }
def DetailCopiesWrongFalsely : Prop := detailCopiesRow.holds Tryz.pinned (OpenSpec.ofChange detailCopiesWrong)

/-- 'stirruplaw49.DetailDrops': WHATEVER THE INPUT: true; the input reads as it did. -/
def detailDropsSpec : ChangeSpec := { name := "detailDrops", fn := fun _ => fun
  | [d1, d2] => { results := [.lit (.bool true)], args := [d1, d2] }
  | _ => none }
def detailDropsRow : OpenClaim := { program := "ytpaanfjjnjjoeaagreat", sum := "f8ef0cad9e081b5cbce86d9d85a85ef6e0e93a144f49f85f59d9f6eeb217f890", func := "stirrup/stirruplaw49.DetailDrops", spec := "detailDrops", unfollowed := true, recurses := true, apart := false }
def DetailDropsSaid : Prop := detailDropsRow.holds Tryz.pinned (OpenSpec.ofChange detailDropsSpec)

/-- ITS FALSE NEIGHBOUR: 'it returns false'. Refute it at one input. -/
def detailDropsWrong : ChangeSpec := { name := "detailDrops", fn := fun _ => fun
  | [d1, d2] => { results := [.lit (.bool false)], args := [d1, d2] }
  | _ => none }
def DetailDropsWrongFalsely : Prop := detailDropsRow.holds Tryz.pinned (OpenSpec.ofChange detailDropsWrong)

/-- 'stirruplaw49.DetailPuts': WHATEVER THE INPUT: true; the input reads as it did. -/
def detailPutsSpec : ChangeSpec := { name := "detailPuts", fn := fun _ => fun
  | [d1, d2, d3] => { results := [.lit (.bool true)], args := [d1, d2, d3] }
  | _ => none }
def detailPutsRow : OpenClaim := { program := "ytpaanfjjnjjoeaagreat", sum := "f8ef0cad9e081b5cbce86d9d85a85ef6e0e93a144f49f85f59d9f6eeb217f890", func := "stirrup/stirruplaw49.DetailPuts", spec := "detailPuts", unfollowed := true, recurses := true, apart := false }
def DetailPutsSaid : Prop := detailPutsRow.holds Tryz.pinned (OpenSpec.ofChange detailPutsSpec)

/-- ITS FALSE NEIGHBOUR: 'it returns false'. Refute it at one input. -/
def detailPutsWrong : ChangeSpec := { name := "detailPuts", fn := fun _ => fun
  | [d1, d2, d3] => { results := [.lit (.bool false)], args := [d1, d2, d3] }
  | _ => none }
def DetailPutsWrongFalsely : Prop := detailPutsRow.holds Tryz.pinned (OpenSpec.ofChange detailPutsWrong)

/-- 'stirruplaw49.DetailBack': WHATEVER THE INPUT: true; the input reads as it did. -/
def detailBackSpec : ChangeSpec := { name := "detailBack", fn := fun _ => fun
  | [d1, d2] => { results := [.lit (.bool true)], args := [d1, d2] }
  | _ => none }
def detailBackRow : OpenClaim := { program := "ytpaanfjjnjjoeaagreat", sum := "f8ef0cad9e081b5cbce86d9d85a85ef6e0e93a144f49f85f59d9f6eeb217f890", func := "stirrup/stirruplaw49.DetailBack", spec := "detailBack", unfollowed := true, recurses := true, apart := false }
def DetailBackSaid : Prop := detailBackRow.holds Tryz.pinned (OpenSpec.ofChange detailBackSpec)

/-- ITS FALSE NEIGHBOUR: 'it returns false'. Refute it at one input. -/
def detailBackWrong : ChangeSpec := { name := "detailBack", fn := fun _ => fun
  | [d1, d2] => { results := [.lit (.bool false)], args := [d1, d2] }
  | _ => none }
def DetailBackWrongFalsely : Prop := detailBackRow.holds Tryz.pinned (OpenSpec.ofChange detailBackWrong)

/- THE SECOND FORM. 'bulk': how many values and letters a reading holds, each counted each time it is reached (what is shared counts as often as it is met; a slice's spare places count too). A statement '..UptoSaid' is the law's where the arguments, and the package variables that the reading takes, are together of bulk at most 1048576: NARROWER than '..Said'. Prove '..Said' where nothing that the law and all that it calls make is longer than what came in: it says more and counts as full. Else prove '..UptoSaid'. A law counts once. -/
mutual
def uptoBulk {H : Type} : DataW H → Nat
  | .lit (.string bytes) => bytes.length + 1
  | .lit _ => 1
  | .nil => 1
  | .ptr d => uptoBulk d + 1
  | .slice elems spare => uptoBulkAll elems + uptoBulkAll spare + 1
  | .agg parts => uptoBulkAll parts + 1
  | .iface _ d => uptoBulk d + 1
  | .map entries => uptoBulkEntries entries + 1
  | .held _ => 1
def uptoBulkAll {H : Type} : List (DataW H) → Nat
  | [] => 0
  | d :: r => uptoBulk d + uptoBulkAll r
def uptoBulkEntries {H : Type} : List (Lit × DataW H) → Nat
  | [] => 0
  | x :: r => uptoBulkEntry x + uptoBulkEntries r
def uptoBulkEntry {H : Type} : Lit × DataW H → Nat
  | (.string bytes, d) => bytes.length + uptoBulk d + 1
  | (_, d) => uptoBulk d + 1
 end
def uptoSmall : (H : Type) → List (DataW H) → Bool := fun _ ds => decide (uptoBulkAll ds ≤ 1048576)
def OpenSpec.upto (s : _root_.Go.ChangeSpec) : _root_.Go.OpenSpec := { _root_.Go.OpenSpec.ofChange s with cond := some uptoSmall }

/-- 'stirruplaw49.DetailChecks', WHERE WHAT IT READS IS OF BULK AT MOST 1048576: true; the input reads as it did. -/
def detailChecksUptoRow : OpenClaim := { program := "ytpaanfjjnjjoeaagreat", sum := "f8ef0cad9e081b5cbce86d9d85a85ef6e0e93a144f49f85f59d9f6eeb217f890", func := "stirrup/stirruplaw49.DetailChecks", spec := "detailChecks", unfollowed := true, recurses := true, apart := false, narrowed := true }
def DetailChecksUptoSaid : Prop := detailChecksUptoRow.holds Tryz.pinned (OpenSpec.upto detailChecksSpec)

/-- 'stirruplaw49.DetailLayers', WHERE WHAT IT READS IS OF BULK AT MOST 1048576: true; the input reads as it did. -/
def detailLayersUptoRow : OpenClaim := { program := "ytpaanfjjnjjoeaagreat", sum := "f8ef0cad9e081b5cbce86d9d85a85ef6e0e93a144f49f85f59d9f6eeb217f890", func := "stirrup/stirruplaw49.DetailLayers", spec := "detailLayers", unfollowed := true, recurses := true, apart := false, narrowed := true }
def DetailLayersUptoSaid : Prop := detailLayersUptoRow.holds Tryz.pinned (OpenSpec.upto detailLayersSpec)

/-- 'stirruplaw49.DetailForms', WHERE WHAT IT READS IS OF BULK AT MOST 1048576: true; the input reads as it did. -/
def detailFormsUptoRow : OpenClaim := { program := "ytpaanfjjnjjoeaagreat", sum := "f8ef0cad9e081b5cbce86d9d85a85ef6e0e93a144f49f85f59d9f6eeb217f890", func := "stirrup/stirruplaw49.DetailForms", spec := "detailForms", unfollowed := true, recurses := true, apart := false, narrowed := true }
def DetailFormsUptoSaid : Prop := detailFormsUptoRow.holds Tryz.pinned (OpenSpec.upto detailFormsSpec)

/-- 'stirruplaw49.DetailCopies', WHERE WHAT IT READS IS OF BULK AT MOST 1048576: true; the input reads as it did. -/
def detailCopiesUptoRow : OpenClaim := { program := "ytpaanfjjnjjoeaagreat", sum := "f8ef0cad9e081b5cbce86d9d85a85ef6e0e93a144f49f85f59d9f6eeb217f890", func := "stirrup/stirruplaw49.DetailCopies", spec := "detailCopies", unfollowed := true, recurses := true, apart := false, narrowed := true }
def DetailCopiesUptoSaid : Prop := detailCopiesUptoRow.holds Tryz.pinned (OpenSpec.upto detailCopiesSpec)

/-- 'stirruplaw49.DetailDrops', WHERE WHAT IT READS IS OF BULK AT MOST 1048576: true; the input reads as it did. -/
def detailDropsUptoRow : OpenClaim := { program := "ytpaanfjjnjjoeaagreat", sum := "f8ef0cad9e081b5cbce86d9d85a85ef6e0e93a144f49f85f59d9f6eeb217f890", func := "stirrup/stirruplaw49.DetailDrops", spec := "detailDrops", unfollowed := true, recurses := true, apart := false, narrowed := true }
def DetailDropsUptoSaid : Prop := detailDropsUptoRow.holds Tryz.pinned (OpenSpec.upto detailDropsSpec)

/-- 'stirruplaw49.DetailPuts', WHERE WHAT IT READS IS OF BULK AT MOST 1048576: true; the input reads as it did. -/
def detailPutsUptoRow : OpenClaim := { program := "ytpaanfjjnjjoeaagreat", sum := "f8ef0cad9e081b5cbce86d9d85a85ef6e0e93a144f49f85f59d9f6eeb217f890", func := "stirrup/stirruplaw49.DetailPuts", spec := "detailPuts", unfollowed := true, recurses := true, apart := false, narrowed := true }
def DetailPutsUptoSaid : Prop := detailPutsUptoRow.holds Tryz.pinned (OpenSpec.upto detailPutsSpec)

/-- 'stirruplaw49.DetailBack', WHERE WHAT IT READS IS OF BULK AT MOST 1048576: true; the input reads as it did. -/
def detailBackUptoRow : OpenClaim := { program := "ytpaanfjjnjjoeaagreat", sum := "f8ef0cad9e081b5cbce86d9d85a85ef6e0e93a144f49f85f59d9f6eeb217f890", func := "stirrup/stirruplaw49.DetailBack", spec := "detailBack", unfollowed := true, recurses := true, apart := false, narrowed := true }
def DetailBackUptoSaid : Prop := detailBackUptoRow.holds Tryz.pinned (OpenSpec.upto detailBackSpec)

end Rows
end Go.Proofs.YtpaanfjjnjjoeaaGreat
