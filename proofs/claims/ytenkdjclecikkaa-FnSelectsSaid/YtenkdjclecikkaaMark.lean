/- Contracts of the laws' own markText, markStringS, heldStringS. No conditions. -/
import Derived.Test.YtenkdjclecikkaaOwnE
import Derived.Test.YtenkdjclecikkaaDet
namespace Go.Proofs.Ytenkdjclecikkaa
open Go.RowKit

end Go.Proofs.Ytenkdjclecikkaa
