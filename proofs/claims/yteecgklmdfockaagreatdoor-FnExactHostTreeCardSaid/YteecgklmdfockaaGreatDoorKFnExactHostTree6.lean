/- Written by wip/tools/pack.py: the texts that FnExactHostTree needs, without what it does not need. No conditions. -/
import Derived.Test.YteecgklmdfockaaGreatDoorKFnExactHostTree1
namespace Go.Proofs.YteecgklmdfockaaGreatDoor
def stepB {D : Type} (ok : D → Bool) (lt : D → D → Bool) (l : List D) (i : Nat) : Bool :=
  match l[i]? with
  | none => true
  | some d => ok d && (match i with | 0 => true | j + 1 => match l[j]? with | some c => lt c d | none => true)
def chainB {D : Type} (ok : D → Bool) (lt : D → D → Bool) (l : List D) : Bool := (List.range l.length).all (stepB ok lt l)
theorem chain_succ {D : Type} (ok : D → Bool) (lt : D → D → Bool) (l : List D) (k : Nat) : (List.range (k + 1)).all (stepB ok lt l) = ((List.range k).all (stepB ok lt l) && stepB ok lt l k) := by
  rw [List.range_succ, List.all_append]; simp
theorem chain_bad {D : Type} (ok : D → Bool) (lt : D → D → Bool) (l : List D) (k : Nat) (hk : k < l.length) (h : stepB ok lt l k = false) : chainB ok lt l = false := by
  unfold chainB
  rw [List.all_eq_false]
  exact ⟨k, by simpa using hk, by simp [h]⟩
theorem stepB_zero {D : Type} (ok : D → Bool) (lt : D → D → Bool) (l : List D) (d : D) (h : l[0]? = some d) : stepB ok lt l 0 = ok d := by
  unfold stepB; rw [h]; simp
theorem stepB_succ {D : Type} (ok : D → Bool) (lt : D → D → Bool) (l : List D) (k : Nat) (c d : D) (hc : l[k]? = some c) (h : l[k + 1]? = some d) : stepB ok lt l (k + 1) = (ok d && lt c d) := by
  unfold stepB; rw [h]; simp only [hc]
theorem stepB_no {D : Type} (ok : D → Bool) (lt : D → D → Bool) (l : List D) (k : Nat) (d : D) (h : l[k]? = some d) (ho : ok d = false) : stepB ok lt l k = false := by
  unfold stepB; rw [h]; simp [ho]
theorem chain_all {D : Type} {ok : D → Bool} {lt : D → D → Bool} {l : List D} (h : (List.range l.length).all (stepB ok lt l) = true) : chainB ok lt l = true := h
end Go.Proofs.YteecgklmdfockaaGreatDoor
