/- Contracts of TaintsOk and TolerancesOk. No conditions. -/
import Derived.Test.YteacohdnaddofaaTaint3
import Derived.Test.YteacohdnaddofaaTaint1
import Derived.Test.YteacohdnaddofaaDet
import Derived.Test.YteacohdnaddofaaChain
namespace Go.Proofs.Yteacohdnaddofaa
open Go.RowKit

def okT (d : Taint) : Bool := taintB d.key d.value d.effect
def taintsB (l : List Taint) : Bool := decide (l.length ≤ 4) && chainB okT lessT l

theorem taintsB_def (l : List Taint) : taintsB l = (decide (l.length ≤ 4) && chainB okT lessT l) := rfl

end Go.Proofs.Yteacohdnaddofaa
