/- Steps to FnExactIndentedOk and FnExactIndentedNormal and FnExactCrossed. No conditions. -/
import Derived.Test.YtohcpifekcehjaaGreatDoorRows
import Derived.ProofKit
import Derived.LaidMore
import Derived.Test.YtohcpifekcehjaaGreatDoorKind1
set_option maxHeartbeats 16000000
set_option maxRecDepth 20000
namespace Go.Proofs.YtohcpifekcehjaaGreatDoor
open Go.ChangeShapes Go.WideShapes Go.ChangeAt Go.RowKit
theorem j1_FnExactIndentedNormal : (Rows.fnExactIndentedNormalRow.inPlace == Tryz.pinned.checked.prog.inPlace 4) = true := by kernel_rfl
theorem j2_FnExactIndentedNormal : (Rows.fnExactIndentedNormalRow.unfollowed == Tryz.pinned.checked.prog.unfollowed 4) = true := by kernel_rfl
theorem j3_FnExactIndentedNormal : (Rows.fnExactIndentedNormalRow.recurses == Tryz.pinned.checked.prog.recurses 4) = true := by kernel_rfl
theorem j4_FnExactIndentedNormal : (Rows.fnExactIndentedNormalRow.named == Tryz.pinned.checked.prog.varsNamed 4) = true := by kernel_rfl
theorem closed_FnExactIndentedNormal : joinedFacts Tryz.pinned.checked.prog 4 Tryz.f4 Rows.fnExactIndentedNormalSpec Rows.fnExactIndentedNormalRow = true := by
 unfold joinedFacts
 rw [j1_FnExactIndentedNormal, j2_FnExactIndentedNormal, j3_FnExactIndentedNormal, j4_FnExactIndentedNormal]
 kernel_rfl
end Go.Proofs.YtohcpifekcehjaaGreatDoor
