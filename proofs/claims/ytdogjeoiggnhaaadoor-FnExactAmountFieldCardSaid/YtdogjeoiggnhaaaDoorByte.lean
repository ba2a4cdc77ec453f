/- A byte of a text as a number. No conditions. -/
import Derived.Test.YtdogjeoiggnhaaaDoorBase
namespace Go.Proofs.YtdogjeoiggnhaaaDoor
open Go.RowKit

def byteI (s : ByteArray) (j : Nat) : Int := ((s.get! j).toNat : Int)
theorem byteI_range (s : ByteArray) (j : Nat) : 0 ≤ byteI s j ∧ byteI s j < 256 := by
  have := (s.get! j).toNat_lt
  unfold byteI
  omega
end Go.Proofs.YtdogjeoiggnhaaaDoor
