/- Steps to FnCrossed. No conditions. -/
import Derived.Test.YtohcpifekcehjaaGreatDoorRows
import Derived.ProofKit
import Derived.LaidMore
import Derived.Test.YtohcpifekcehjaaGreatDoorKfcr1
set_option maxHeartbeats 16000000
set_option maxRecDepth 20000
namespace Go.Proofs.YtohcpifekcehjaaGreatDoor
open Go.ChangeShapes Go.WideShapes Go.ChangeAt Go.RowKit
theorem j1_FnCrossed : (Rows.fnCrossedRow.inPlace == Tryz.pinned.checked.prog.inPlace 10) = true := by kernel_rfl
theorem j2_FnCrossed : (Rows.fnCrossedRow.unfollowed == Tryz.pinned.checked.prog.unfollowed 10) = true := by kernel_rfl
theorem j3_FnCrossed : (Rows.fnCrossedRow.recurses == Tryz.pinned.checked.prog.recurses 10) = true := by kernel_rfl
theorem j4_FnCrossed : (Rows.fnCrossedRow.named == Tryz.pinned.checked.prog.varsNamed 10) = true := by kernel_rfl
theorem closed_FnCrossed : joinedFacts Tryz.pinned.checked.prog 10 Tryz.f10 Rows.fnCrossedSpec Rows.fnCrossedRow = true := by
 unfold joinedFacts;rw [j1_FnCrossed, j2_FnCrossed, j3_FnCrossed, j4_FnCrossed];kernel_rfl
end Go.Proofs.YtohcpifekcehjaaGreatDoor
