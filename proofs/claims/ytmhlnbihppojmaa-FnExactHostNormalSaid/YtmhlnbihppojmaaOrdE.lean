/- Rows put in order: plain laws, and what is known of a row whose address is known. No conditions. -/
import Derived.Test.YtmhlnbihppojmaaRowE
import Derived.Test.YtmhlnbihppojmaaOrder
namespace Go.Proofs.Ytmhlnbihppojmaa
open Go.RowKit

theorem ordB_len {D : Type} (lt eq : D → D → Bool) (l : List D) : (ordB lt eq l).length ≤ l.length := by
  have H : ∀ (l acc : List D), (l.foldl (insB lt eq) acc).length ≤ acc.length + l.length := by
    intro l
    induction l with
    | nil => intro acc; simp
    | cons x l ih =>
      intro acc
      have h1 := ih (insB lt eq acc x)
      have h2 := insB_len lt eq acc x
      simp only [List.foldl_cons, List.length_cons]
      omega
  have := H l []
  unfold ordB
  simpa using this
theorem ordB_step {D : Type} {lt eq : D → D → Bool} {l : List D} {k : Nat} {d : D} (h : l[k]? = some d) : ordB lt eq (l.take (k + 1)) = insB lt eq (ordB lt eq (l.take k)) d := by
  unfold ordB
  rw [List.take_add_one, h, List.foldl_append]
  rfl
theorem RowE.at {D : Type} {enc : D → List Value} {sz ty base g n c : Nat} {w : World} {l : List D} (hk : ∀ d, (enc d).length = sz) (h : RowE enc sz ty base w l (.slice (some ⟨g, 0, none⟩) n c)) :
    n = l.length ∧ base ≤ g ∧ l.length ≤ c ∧ c ≤ 9223372036854775807 ∧ ∃ cur, w.heap[g]? = some (.cells cur ty (0, 0)) ∧ cur.size = c * sz ∧ ∀ i d, l[i]? = some d → ∀ j, j < sz → cur[i * sz + j]? = (enc d)[j]? := by
  have h0 := h
  obtain ⟨hl, h1⟩ := h
  rcases h1 with ⟨h2, -⟩ | ⟨g', cap, cur, hv, hb, hg, hn, hcm, hcs, ht⟩
  · cases h2
  · simp only [Value.slice.injEq, Option.some.injEq, Addr.mk.injEq, and_true] at hv
    obtain ⟨rfl, rfl, rfl⟩ := hv
    refine ⟨rfl, hb, hn, by unfold maxLen at hcm; omega, cur, hg, hcs, fun i d hd j hj => ?_⟩
    have hi : i < l.length := (List.getElem?_eq_some_iff.1 hd).1
    have h2 := Nat.mul_le_mul_right sz hi
    rw [Nat.succ_mul] at h2
    have : (cur.toList.take (l.length * sz))[i * sz + j]? = (flatE enc l)[i * sz + j]? := by rw [ht]
    rw [List.getElem?_take, if_pos (by omega), Array.getElem?_toList, flatE_at hk hd hj] at this
    exact this
end Go.Proofs.Ytmhlnbihppojmaa
