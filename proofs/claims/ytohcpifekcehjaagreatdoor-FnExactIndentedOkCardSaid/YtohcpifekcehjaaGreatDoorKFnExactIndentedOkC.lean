/- Steps to FnExactIndentedOk and FnExactIndentedNormal and FnExactCrossed. No conditions. -/
import Derived.Test.YtohcpifekcehjaaGreatDoorRows
import Derived.ProofKit
import Derived.LaidMore
import Derived.Test.YtohcpifekcehjaaGreatDoorKind1
set_option maxHeartbeats 16000000
set_option maxRecDepth 20000
namespace Go.Proofs.YtohcpifekcehjaaGreatDoor
open Go.ChangeShapes Go.WideShapes Go.ChangeAt Go.RowKit
theorem j1_FnExactIndentedOk : (Rows.fnExactIndentedOkRow.inPlace == Tryz.pinned.checked.prog.inPlace 8) = true := by kernel_rfl
theorem j2_FnExactIndentedOk : (Rows.fnExactIndentedOkRow.unfollowed == Tryz.pinned.checked.prog.unfollowed 8) = true := by kernel_rfl
theorem j3_FnExactIndentedOk : (Rows.fnExactIndentedOkRow.recurses == Tryz.pinned.checked.prog.recurses 8) = true := by kernel_rfl
theorem j4_FnExactIndentedOk : (Rows.fnExactIndentedOkRow.named == Tryz.pinned.checked.prog.varsNamed 8) = true := by kernel_rfl
theorem closed_FnExactIndentedOk : joinedFacts Tryz.pinned.checked.prog 8 Tryz.f8 Rows.fnExactIndentedOkSpec Rows.fnExactIndentedOkRow = true := by
 unfold joinedFacts
 rw [j1_FnExactIndentedOk, j2_FnExactIndentedOk, j3_FnExactIndentedOk, j4_FnExactIndentedOk]
 kernel_rfl
end Go.Proofs.YtohcpifekcehjaaGreatDoor
