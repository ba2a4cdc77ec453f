/- Contracts of the functions on letters, words, labels. No conditions. -/
import Derived.Test.YtdogjeoiggnhaaaDoorBase
import Derived.Lib.IndexAny
namespace Go.Proofs.YtdogjeoiggnhaaaDoor
open Go.RowKit

def letterB (c : Int) : Bool := decide (97 ≤ c ∧ c ≤ 122 ∨ 65 ≤ c ∧ c ≤ 90 ∨ 48 ≤ c ∧ c ≤ 57)
def digitB (c : Int) : Bool := decide (48 ≤ c ∧ c ≤ 57)
def lowerB (c : Int) : Bool := decide (97 ≤ c ∧ c ≤ 122)
def alphaB (c : Int) : Bool := decide (97 ≤ c ∧ c ≤ 122 ∨ 65 ≤ c ∧ c ≤ 90)
def inB (x a b : Int) : Bool := decide (a ≤ x ∧ x ≤ b)

theorem c_impl_isDigit (c : Int) (w : World) : Calls Tryd.prog 40 #[.int .u8 c] w fun e w' => e = .returned (.bool (digitB c)) ∧ w = w' := by
  go_enter Tryd.func40, Tryd.ntmps40
  go_wp2_with fail
  all_goals
    go_ret
    refine ⟨ret_bool ?_, rfl⟩
    rw [Bool.eq_iff_iff]
    simp [digitB]
    try omega

theorem indexByte_lt {o : List UInt8} {c : UInt8} : Lib.indexByte o c < 0 ↔ o.contains c = false := by
  have h := Lib.contains_iff_indexByte o c
  rw [h]; simp
end Go.Proofs.YtdogjeoiggnhaaaDoor
