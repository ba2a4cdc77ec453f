/- Contracts of the laws' own functions on slices of strings. No conditions. -/
import Derived.Test.YtenkdjclecikkaaTypes
namespace Go.Proofs.Ytenkdjclecikkaa
open Go.RowKit

def szI (left : Int) (n : Nat) : Int := if (n : Int) ≤ left then left - n else -1
theorem szI_neg {left : Int} {n : Nat} (h : ¬ (n : Int) ≤ left) : szI left n = -1 := by unfold szI; rw [if_neg h]
theorem szI_pos {left : Int} {n : Nat} (h : (n : Int) ≤ left) : szI left n = left - n := by unfold szI; rw [if_pos h]
def szL {D : Type} (f : D → Nat) : List D → Nat
  | [] => 0
  | d :: l => f d + szL f l
theorem szL_append {D : Type} (f : D → Nat) (a b : List D) : szL f (a ++ b) = szL f a + szL f b := by
  induction a with
  | nil => simp [szL]
  | cons x xs ih => simp [szL, ih]; omega
theorem szL_take_succ {D : Type} (f : D → Nat) (l : List D) (k : Nat) (d : D) (h : l[k]? = some d) : szL f (l.take (k + 1)) = szL f (l.take k) + f d := by
  have hl : k < l.length := (List.getElem?_eq_some_iff.1 h).1
  rw [List.take_succ_eq_append_getElem hl, szL_append]
  have : l[k] = d := by rw [List.getElem?_eq_getElem hl] at h; exact Option.some.inj h
  simp [szL, this]
theorem szL_take_le {D : Type} (f : D → Nat) (l : List D) (k : Nat) : szL f (l.take k) ≤ szL f l := by
  have := szL_append f (l.take k) (l.drop k); rw [List.take_append_drop] at this; omega
theorem exists_at {D : Type} {l : List D} {k : Nat} (h : k < l.length) : ∃ d, l[k]? = some d := ⟨l[k], List.getElem?_eq_getElem h⟩
def nL {D : Type} (f : D → Nat) (l : List D) : Nat := l.length + szL f l
theorem nL_def {D : Type} (f : D → Nat) (l : List D) : nL f l = l.length + szL f l := rfl



end Go.Proofs.Ytenkdjclecikkaa
