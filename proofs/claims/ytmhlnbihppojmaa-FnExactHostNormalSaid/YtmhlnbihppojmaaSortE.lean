/- Between rows of the call's own and the worlds that the library's sort speaks of. No conditions. -/
import Derived.Test.YtmhlnbihppojmaaRowE
import Derived.Test.YtmhlnbihppojmaaOrder
import Derived.Test.YtmhlnbihppojmaaCmpX
import Derived.Test.YtmhlnbihppojmaaLaid
namespace Go.Proofs.Ytmhlnbihppojmaa
open Go.RowKit

theorem RowE.holds {D : Type} [Inhabited D] {enc : D → List Value} {sz ty base g n c : Nat} {w : World} {l : List D} (hk : ∀ d, (enc d).length = sz) (hs : 0 < sz) (h : RowE enc sz ty base w l (.slice (some ⟨g, 0, none⟩) n c)) (hp : 0 < l.length) : Go.Sort.HoldsK enc sz w g 0 l.toArray := by
  obtain ⟨g', cap, cur, hv, -, hg, -, -, -, hc⟩ := h.row hk hp
  simp only [Value.slice.injEq, Option.some.injEq, Addr.mk.injEq, and_true] at hv
  obtain ⟨rfl, -, -⟩ := hv
  intro j hj
  rw [Go.Sort.size_flatK] at hj
  have hjl : j < l.length * sz := by simpa using hj
  have hi : j / sz < l.length := by rwa [Nat.div_lt_iff_lt_mul hs]
  refine ⟨?_, frozen_row hg _⟩
  rw [cell_of_row w g _ cur _ _ hg, Nat.zero_add, Go.Sort.get_flatK _ _ _ _ hj]
  obtain ⟨d, hd⟩ := exists_at hi
  have h1 := hc (j / sz) d hd (j % sz) (Nat.mod_lt _ hs)
  rw [Nat.mul_comm, Nat.div_add_mod] at h1
  rw [h1]
  have h2 : l.toArray[j / sz]! = d := by
    rw [getElem!_pos _ _ (by simpa using hi)]
    simpa using (List.getElem?_eq_some_iff.1 hd).2
  rw [h2]
  have h3 : j % sz < (enc d).length := by rw [hk]; exact Nat.mod_lt _ hs
  rw [List.getElem?_eq_getElem h3]
  rw [getElem!_pos (enc d) (j % sz) h3]
  rfl
theorem sorted_heap {D : Type} [Inhabited D] {enc : D → List Value} {sz g m : Nat} {w : World} {cur : Array Value} {e : TypeId} {d' : Array D} {os : Array Obj} (hg : w.heap[g]? = some (.cells cur e (0, 0))) :
    (Go.Proofs.sortWorldK enc sz w g 0 m d' os).heap[g]? = some (.cells (Go.Sort.putCells id 0 (Go.Sort.flatK enc sz d') cur) e (0, 0)) := by
  have hl := row_lt hg
  show (w.heap.modify g (Go.Sort.onCells (Go.Sort.putCells id 0 (Go.Sort.flatK enc sz d'))) ++ os)[g]? = _
  rw [Array.getElem?_append_left (by simpa using hl), Array.getElem?_modify, if_pos rfl, hg]
  rfl
theorem sorted_aside {D : Type} [Inhabited D] {enc : D → List Value} {sz g m : Nat} {w : World} {d' : Array D} {os : Array Obj} : Aside (fun b => b = g) w (Go.Proofs.sortWorldK enc sz w g 0 m d' os) :=
  ⟨rfl, rfl, rfl, by show w.heap.size ≤ (w.heap.modify g _ ++ os).size; simp, fun b hb hn => by
    show (w.heap.modify g (Go.Sort.onCells (Go.Sort.putCells id 0 (Go.Sort.flatK enc sz d'))) ++ os)[b]? = _
    rw [Array.getElem?_append_left (by simpa using hb), Array.getElem?_modify, if_neg (fun e => hn e.symm)]⟩
theorem RowE.sorted {D : Type} [Inhabited D] {enc : D → List Value} {sz ty base g n c m : Nat} {w : World} {l : List D} {d' : Array D} {os : Array Obj} (hk : ∀ d, (enc d).length = sz) (hs : 0 < sz) (h : RowE enc sz ty base w l (.slice (some ⟨g, 0, none⟩) n c)) (hd : d'.size = l.length) :
    RowE enc sz ty base (Go.Proofs.sortWorldK enc sz w g 0 m d' os) d'.toList (.slice (some ⟨g, 0, none⟩) n c) := by
  obtain ⟨hl, h1⟩ := h
  rcases h1 with ⟨h0, -⟩ | ⟨g', cap, cur, hv, hb, hg, hn, hcm, hcs, ht⟩
  · cases h0
  · simp only [Value.slice.injEq, Option.some.injEq, Addr.mk.injEq, and_true] at hv
    obtain ⟨rfl, rfl, rfl⟩ := hv
    have hnl : d'.toList.length = l.length := by simpa using hd
    refine ⟨by rw [flatE_len hk], .inr ⟨g, c, _, by rw [hnl], hb, sorted_heap hg, by rw [hnl]; exact hn, hcm, by simp [Go.Sort.putCells, hcs], ?_⟩⟩
    have hsz : d'.size * sz ≤ cur.size := by rw [hcs, hd]; exact Nat.mul_le_mul_right _ hn
    apply List.ext_getElem?
    intro i
    rw [hnl, List.getElem?_take]
    by_cases hi : i < l.length * sz
    · rw [if_pos hi, Array.getElem?_toList]
      have hi2 : i / sz < d'.toList.length := by rw [hnl]; rwa [Nat.div_lt_iff_lt_mul hs]
      obtain ⟨d, hdd⟩ := exists_at hi2
      have h2 := flatE_at hk hdd (Nat.mod_lt i hs)
      have h3 : i / sz * sz + i % sz = i := by rw [Nat.mul_comm]; exact Nat.div_add_mod i sz
      rw [h3] at h2
      rw [h2]
      have hid : i < d'.size * sz := by rw [hd]; exact hi
      have hic : i < cur.size := by omega
      unfold Go.Sort.putCells
      rw [Array.getElem?_mapIdx, Array.getElem?_eq_getElem hic]
      simp only [Option.map_some, Nat.zero_le, true_and, Nat.zero_add, Nat.sub_zero, Go.Sort.size_flatK, hid, if_true, id]
      rw [Go.Sort.get_flatK _ _ _ _ hid]
      have h4 : d'[i / sz]! = d := by
        rw [getElem!_pos _ _ (by simpa using hi2)]
        simpa using (List.getElem?_eq_some_iff.1 hdd).2
      rw [h4]
      have h5 : i % sz < (enc d).length := by rw [hk]; exact Nat.mod_lt _ hs
      rw [List.getElem?_eq_getElem h5, getElem!_pos (enc d) (i % sz) h5]
    · rw [if_neg hi, List.getElem?_eq_none (by rw [flatE_len hk, hnl]; omega)]
theorem perm_of_in {D : Type} [Inhabited D] {l : List D} {d' : Array D} (h : Go.Sort.PermIn 0 l.toArray.size l.toArray d') : d'.size = l.length ∧ ∀ x, x ∈ d'.toList ↔ x ∈ l := by
  obtain ⟨h1, -, h3⟩ := h
  have h4 : d'.size = l.length := by simpa using h1
  refine ⟨h4, fun x => ?_⟩
  have e1 : d'.extract 0 l.toArray.size = d' := by rw [← h1]; exact Array.extract_size
  have e2 : l.toArray.extract 0 l.toArray.size = l.toArray := Array.extract_size
  rw [e1, e2] at h3
  exact h3.mem_iff
theorem pair_of_sorted {D : Type} [Inhabited D] {lt : D → D → Bool} {d' : Array D} (h : Go.Sort.SortedIn lt 0 d'.size d') : d'.toList.Pairwise (fun a b => lt b a = false) := by
  rw [List.pairwise_iff_getElem]
  intro i j hi hj hij
  have := h i j (Nat.zero_le _) hij (by simpa using hj)
  rw [getElem!_pos _ _ (by simpa using hj), getElem!_pos _ _ (by simpa using hi)] at this
  simpa using this
end Go.Proofs.Ytmhlnbihppojmaa
