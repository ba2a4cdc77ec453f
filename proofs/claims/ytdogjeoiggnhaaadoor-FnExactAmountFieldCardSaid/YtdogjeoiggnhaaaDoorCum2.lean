/- A world's facts, carried on from several elder worlds. No conditions. -/
import Derived.Test.YtdogjeoiggnhaaaDoorBase
namespace Go.Proofs.YtdogjeoiggnhaaaDoor
open Go.RowKit
theorem Cum.up {a b x w : World} {n : Nat} (_h : Cum a b) (_k : Below n x w) (h : Below a.heap.size a w) : Cum a w := ⟨h⟩
end Go.Proofs.YtdogjeoiggnhaaaDoor
