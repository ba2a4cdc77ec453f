/- Steps to FnIndentedNormal. No conditions. -/
import Derived.Test.YtohcpifekcehjaaGreatDoorRows
import Derived.ProofKit
import Derived.LaidMore
import Derived.Test.YtohcpifekcehjaaGreatDoorKfni1
set_option maxHeartbeats 16000000
set_option maxRecDepth 20000
namespace Go.Proofs.YtohcpifekcehjaaGreatDoor
open Go.ChangeShapes Go.WideShapes Go.ChangeAt Go.RowKit
theorem j1_FnIndentedNormal : (Rows.fnIndentedNormalRow.inPlace == Tryz.pinned.checked.prog.inPlace 5) = true := by kernel_rfl
theorem j2_FnIndentedNormal : (Rows.fnIndentedNormalRow.unfollowed == Tryz.pinned.checked.prog.unfollowed 5) = true := by kernel_rfl
theorem j3_FnIndentedNormal : (Rows.fnIndentedNormalRow.recurses == Tryz.pinned.checked.prog.recurses 5) = true := by kernel_rfl
theorem j4_FnIndentedNormal : (Rows.fnIndentedNormalRow.named == Tryz.pinned.checked.prog.varsNamed 5) = true := by kernel_rfl
theorem closed_FnIndentedNormal : joinedFacts Tryz.pinned.checked.prog 5 Tryz.f5 Rows.fnIndentedNormalSpec Rows.fnIndentedNormalRow = true := by
 unfold joinedFacts;rw [j1_FnIndentedNormal, j2_FnIndentedNormal, j3_FnIndentedNormal, j4_FnIndentedNormal];kernel_rfl
end Go.Proofs.YtohcpifekcehjaaGreatDoor
