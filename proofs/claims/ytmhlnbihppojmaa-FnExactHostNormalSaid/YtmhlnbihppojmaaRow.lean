/- Rows of flat structs that the call owns: what toKS makes and markKS changes. No conditions. Written by wip/tools/genrow.py. -/
import Derived.Test.YtmhlnbihppojmaaMark
namespace Go.Proofs.Ytmhlnbihppojmaa
open Go.RowKit

def RowAt {D : Type} (C : D → List Value → Prop) (sz : Nat) (cur : Array Value) (l : List D) : Prop := ∀ i d, l[i]? = some d → ∃ es, es.length = sz ∧ (∀ j, j < sz → cur[i * sz + j]? = es[j]?) ∧ C d es
/-- v is a slice of the structs l, in one row of a block of S. -/
def OwnR {D : Type} (C : D → List Value → Prop) (sz ty : Nat) (S : Nat → Prop) (w : World) (l : List D) (v : Value) : Prop :=
  ∃ A c, v = .slice A l.length c ∧ l.length ≤ c ∧ c ≤ 9223372036854775807 ∧ (0 < l.length → ∃ g cur, A = some ⟨g, 0, none⟩ ∧ S g ∧ w.heap[g]? = some (.cells cur ty (0, 0)) ∧ RowAt C sz cur l)
theorem OwnR.form {D : Type} {C : D → List Value → Prop} {sz ty : Nat} {S : Nat → Prop} {w : World} {l : List D} {v : Value} (h : OwnR C sz ty S w l v) : ∃ A c, v = .slice A l.length c := by
  obtain ⟨A, c, hv, _⟩ := h
  exact ⟨A, c, hv⟩
theorem OwnR.carry {D : Type} {C : D → List Value → Prop} {sz ty : Nat} {S S' : Nat → Prop} {w w' : World} {l : List D} {v : Value} (h : OwnR C sz ty S w l v) (hs : ∀ b, S b → w'.heap[b]? = w.heap[b]?) (hS : ∀ b, S b → S' b) : OwnR C sz ty S' w' l v := by
  obtain ⟨A, c, hv, h1, h2, h3⟩ := h
  refine ⟨A, c, hv, h1, h2, fun hp => ?_⟩
  obtain ⟨g, cur, hA, hg, hr, hc⟩ := h3 hp
  exact ⟨g, cur, hA, hS g hg, (hs g hg).trans hr, hc⟩
theorem OwnR.toC {D : Type} {C : D → List Value → Prop} {sz ty lo hi : Nat} {S : Nat → Prop} {w : World} {l : List D} {v : Value} (h : OwnR C sz ty S w l v) (hS : ∀ b, S b → lo ≤ b ∧ b < hi) : SlOf C sz lo hi w l v := by
  obtain ⟨A, c, rfl, h1, h2, h3⟩ := h
  refine ⟨A, c, rfl, h1, h2, fun hp => ?_⟩
  obtain ⟨g, cur, rfl, hg, hr, hc⟩ := h3 hp
  refine ⟨g, 0, rfl, (hS g hg).1, (hS g hg).2, fun i d hd => ?_⟩
  obtain ⟨es, e1, e2, e3⟩ := hc i d hd
  refine ⟨es, e1, fun j hj => ?_, e3⟩
  rw [cell_of_row w g _ cur _ _ hr, Nat.zero_add]
  exact e2 j hj
theorem OwnR.of_part {D : Type} {C : D → List Value → Prop} {sz ty g c : Nat} {S : Nat → Prop} {w : World} {l : List D} {cs : Array Value} (h : Part C sz l l.length cs) (hg : w.heap[g]? = some (.cells cs ty (0, 0))) (hS : S g) (hc : l.length ≤ c) (hc2 : c ≤ 9223372036854775807) : OwnR C sz ty S w l (.slice (some ⟨g, 0, none⟩) l.length c) :=
  ⟨_, c, rfl, hc, hc2, fun _ => ⟨g, cs, rfl, hS, hg, fun i d hd => h.2 i d (List.getElem?_eq_some_iff.1 hd).1 hd⟩⟩
theorem RowAt.set {D : Type} {C : D → List Value → Prop} {sz : Nat} {cur : Array Value} {l : List D} (h : RowAt C sz cur l) {k : Nat} {d' : D} {es' : List Value} (hl : es'.length = sz) (hC : C d' es') (hk : k * sz + sz ≤ cur.size) : RowAt C sz (putAt cur (k * sz) es') (l.set k d') := by
  intro i d hd
  rw [List.getElem?_set] at hd
  by_cases he : k = i
  · subst he
    rw [if_pos rfl] at hd
    by_cases hkl : k < l.length
    · rw [if_pos hkl] at hd
      obtain rfl := Option.some.inj hd
      exact ⟨es', hl, fun j hj => get_putAt _ _ _ j (by omega) (by omega), hC⟩
    · rw [if_neg hkl] at hd; cases hd
  · rw [if_neg he] at hd
    obtain ⟨es, e1, e2, e3⟩ := h i d hd
    refine ⟨es, e1, fun j hj => ?_, e3⟩
    rw [← e2 j hj]
    rcases Nat.lt_or_ge i k with h1 | h1
    · have := Nat.mul_le_mul_right sz h1
      rw [Nat.succ_mul] at this
      rw [get_putAt_lt _ _ _ _ (by omega)]
    · have h2 : k < i := by omega
      have := Nat.mul_le_mul_right sz h2
      rw [Nat.succ_mul] at this
      rw [get_putAt_ge _ _ _ _ (by omega)]
theorem RowAt.size {D : Type} {C : D → List Value → Prop} {sz : Nat} {cur : Array Value} {l : List D} (h : RowAt C sz cur l) {k : Nat} {d : D} (hd : l[k]? = some d) (hz : 0 < sz) : k * sz + sz ≤ cur.size := by
  obtain ⟨es, e1, e2, -⟩ := h k d hd
  have h3 := e2 (sz - 1) (by omega)
  rw [List.getElem?_eq_getElem (by omega)] at h3
  have := (Array.getElem?_eq_some_iff.1 h3).1
  omega
end Go.Proofs.Ytmhlnbihppojmaa
