/- Steps to FnExactIndentedOk and FnExactIndentedNormal and FnExactCrossed. No conditions. -/
import Derived.Test.YtohcpifekcehjaaGreatDoorRows
import Derived.ProofKit
import Derived.LaidMore
import Derived.Test.YtohcpifekcehjaaGreatDoorKind1
set_option maxHeartbeats 16000000
set_option maxRecDepth 20000
namespace Go.Proofs.YtohcpifekcehjaaGreatDoor
open Go.ChangeShapes Go.WideShapes Go.ChangeAt Go.RowKit
theorem j1_FnExactCrossed : (Rows.fnExactCrossedRow.inPlace == Tryz.pinned.checked.prog.inPlace 3) = true := by kernel_rfl
theorem j2_FnExactCrossed : (Rows.fnExactCrossedRow.unfollowed == Tryz.pinned.checked.prog.unfollowed 3) = true := by kernel_rfl
theorem j3_FnExactCrossed : (Rows.fnExactCrossedRow.recurses == Tryz.pinned.checked.prog.recurses 3) = true := by kernel_rfl
theorem j4_FnExactCrossed : (Rows.fnExactCrossedRow.named == Tryz.pinned.checked.prog.varsNamed 3) = true := by kernel_rfl
theorem closed_FnExactCrossed : joinedFacts Tryz.pinned.checked.prog 3 Tryz.f3 Rows.fnExactCrossedSpec Rows.fnExactCrossedRow = true := by
 unfold joinedFacts
 rw [j1_FnExactCrossed, j2_FnExactCrossed, j3_FnExactCrossed, j4_FnExactCrossed]
 kernel_rfl
end Go.Proofs.YtohcpifekcehjaaGreatDoor
