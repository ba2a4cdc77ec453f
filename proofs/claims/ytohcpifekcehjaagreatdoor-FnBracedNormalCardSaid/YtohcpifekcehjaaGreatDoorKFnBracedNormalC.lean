/- Steps to FnBracedNormal. No conditions. -/
import Derived.Test.YtohcpifekcehjaaGreatDoorRows
import Derived.ProofKit
import Derived.LaidMore
import Derived.Test.YtohcpifekcehjaaGreatDoorKSm1
set_option maxHeartbeats 16000000
set_option maxRecDepth 20000
namespace Go.Proofs.YtohcpifekcehjaaGreatDoor
open Go.ChangeShapes Go.WideShapes Go.ChangeAt Go.RowKit
theorem j1_FnBracedNormal : (Rows.fnBracedNormalRow.inPlace == Tryz.pinned.checked.prog.inPlace 7) = true := by kernel_rfl
theorem j2_FnBracedNormal : (Rows.fnBracedNormalRow.unfollowed == Tryz.pinned.checked.prog.unfollowed 7) = true := by kernel_rfl
theorem j3_FnBracedNormal : (Rows.fnBracedNormalRow.recurses == Tryz.pinned.checked.prog.recurses 7) = true := by kernel_rfl
theorem j4_FnBracedNormal : (Rows.fnBracedNormalRow.named == Tryz.pinned.checked.prog.varsNamed 7) = true := by kernel_rfl
theorem closed_FnBracedNormal : joinedFacts Tryz.pinned.checked.prog 7 Tryz.f7 Rows.fnBracedNormalSpec Rows.fnBracedNormalRow = true := by
 unfold joinedFacts
 rw [j1_FnBracedNormal, j2_FnBracedNormal, j3_FnBracedNormal, j4_FnBracedNormal]
 kernel_rfl
end Go.Proofs.YtohcpifekcehjaaGreatDoor
