/- Steps to FnIndented. No conditions. -/
import Derived.Test.YtohcpifekcehjaaGreatDoorRows
import Derived.ProofKit
import Derived.LaidMore
import Derived.Test.YtohcpifekcehjaaGreatDoorKfin1
set_option maxHeartbeats 16000000
set_option maxRecDepth 20000
namespace Go.Proofs.YtohcpifekcehjaaGreatDoor
open Go.ChangeShapes Go.WideShapes Go.ChangeAt Go.RowKit
theorem j1_FnIndented : (Rows.fnIndentedRow.inPlace == Tryz.pinned.checked.prog.inPlace 9) = true := by kernel_rfl
theorem j2_FnIndented : (Rows.fnIndentedRow.unfollowed == Tryz.pinned.checked.prog.unfollowed 9) = true := by kernel_rfl
theorem j3_FnIndented : (Rows.fnIndentedRow.recurses == Tryz.pinned.checked.prog.recurses 9) = true := by kernel_rfl
theorem j4_FnIndented : (Rows.fnIndentedRow.named == Tryz.pinned.checked.prog.varsNamed 9) = true := by kernel_rfl
theorem closed_FnIndented : joinedFacts Tryz.pinned.checked.prog 9 Tryz.f9 Rows.fnIndentedSpec Rows.fnIndentedRow = true := by
 unfold joinedFacts
 rw [j1_FnIndented, j2_FnIndented, j3_FnIndented, j4_FnIndented]
 kernel_rfl
end Go.Proofs.YtohcpifekcehjaaGreatDoor
