/- Steps to FnIndentedNormal. No conditions. -/
import Derived.Test.YtohcpifekcehjaaGreatDoorRows
import Derived.ProofKit
import Derived.LaidMore
import Derived.SevenTiedAt
import Derived.Test.YtohcpifekcehjaaGreatDoorKfni1
set_option maxHeartbeats 16000000
set_option maxRecDepth 20000
namespace Go.Proofs.YtohcpifekcehjaaGreatDoor
open Go.ChangeShapes Go.WideShapes Go.ChangeAt Go.RowKit
theorem goes_FnIndentedNormal : false = Rows.fnIndentedNormalRow.goesBy Tryz.pinned.checked.prog := by kernel_rfl
end Go.Proofs.YtohcpifekcehjaaGreatDoor
