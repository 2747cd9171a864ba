/- Facts on the functions that DetailPuts reaches, and on the program. -/
import Derived.Test.YtpaanfjjnjjoeaaGreatRows
import Derived.Test.YtpaanfjjnjjoeaaGreatChecked
import Derived.WalkKit
import Derived.ProofKit
import Derived.OpenShut
import Derived.Deep.DeepHandedRow
import Derived.Lib.LaidTab
import Derived.Stop.LaidErr
namespace Go.Proofs.YtpaanfjjnjjoeaaGreat
open Go.ChangeShapes Go.WideShapes Go.ChangeAt Go.RowKit
theorem own : ownKnob Tryz.prog.godebug = none := by kernel_rfl
theorem laidOut : laidOutB Tryz.prog = true := by kernel_rfl
theorem j_inPlace : (Rows.detailPutsRow.inPlace == Tryz.pinned.checked.prog.inPlace 8) = true := by kernel_rfl
theorem j_unfollowed : (Rows.detailPutsRow.unfollowed == Tryz.pinned.checked.prog.unfollowed 8) = true := by kernel_rfl
theorem j_recurses : (Rows.detailPutsRow.recurses == Tryz.pinned.checked.prog.recurses 8) = true := by kernel_rfl
theorem j_named : (Rows.detailPutsRow.named == Tryz.pinned.checked.prog.varsNamed 8) = true := by kernel_rfl
theorem joined : joinedFacts Tryz.pinned.checked.prog 8 Tryz.f8 (OpenSpec.ofChange Rows.detailPutsSpec).bare Rows.detailPutsRow = true := by
 unfold joinedFacts
 rw [j_inPlace, j_unfollowed, j_recurses, j_named]
 kernel_rfl
end Go.Proofs.YtpaanfjjnjjoeaaGreat
