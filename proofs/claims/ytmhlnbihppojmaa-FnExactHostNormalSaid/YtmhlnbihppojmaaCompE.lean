/- Rows of flat structs that are written in place: a member stored, the row cut, its rest cleared; what dropping neighbours makes, member by member. Plain laws. No conditions. -/
import Derived.Test.YtmhlnbihppojmaaOrdE
import Derived.Lib.SliceRun
namespace Go.Proofs.Ytmhlnbihppojmaa
open Go.RowKit

theorem compB_two {D : Type} (eq : D → D → Bool) (a b : D) (l : List D) : compB eq (a :: b :: l) = if eq b a then compB eq (b :: l) else a :: compB eq (b :: l) := rfl
theorem put_is_set (g : Nat) : ∀ (vs : List Value) (w : World) (o : Nat), putCells w g o vs = w.setCells g o vs
  | [], _, _ => rfl
  | v :: vs, w, o => put_is_set g vs (w.setCell ⟨g, o, none⟩ v) (o + 1)
theorem compB_snoc {D : Type} {eq : D → D → Bool} (he : ∀ a b, eq a b = true ↔ a = b) (a x : D) : ∀ l : List D, compB eq (l ++ [a, x]) = if eq x a then compB eq (l ++ [a]) else compB eq (l ++ [a]) ++ [x]
  | [] => by
    show compB eq [a, x] = if eq x a then compB eq [a] else compB eq [a] ++ [x]
    unfold compB
    by_cases h : eq x a = true
    · rw [if_pos h, if_pos h]
      have := (he x a).1 h
      subst this
      rfl
    · rw [if_neg h, if_neg h]
      rfl
  | [b] => by
    have ih := compB_snoc he a x []
    simp only [List.nil_append] at ih
    show compB eq (b :: a :: [x]) = if eq x a then compB eq (b :: a :: []) else compB eq (b :: a :: []) ++ [x]
    rw [compB_two eq b a [x], compB_two eq b a [], ih]
    by_cases h : eq x a = true <;> by_cases h2 : eq a b = true <;> simp [h, h2]
  | b :: c :: l => by
    have ih := compB_snoc he a x (c :: l)
    simp only [List.cons_append] at ih
    show compB eq (b :: c :: (l ++ [a, x])) = if eq x a then compB eq (b :: c :: (l ++ [a])) else compB eq (b :: c :: (l ++ [a])) ++ [x]
    rw [compB_two eq b c (l ++ [a, x]), compB_two eq b c (l ++ [a]), ih]
    by_cases h : eq x a = true <;> by_cases h2 : eq c b = true <;> simp [h, h2]
theorem take_last {D : Type} {l : List D} {m : Nat} {a : D} (hm : 0 < m) (ha : l[m - 1]? = some a) : l.take m = l.take (m - 1) ++ [a] := by
  have h := List.take_add_one (l := l) (i := m - 1)
  rw [show m - 1 + 1 = m by omega, ha] at h
  exact h
theorem compB_take {D : Type} {eq : D → D → Bool} (he : ∀ a b, eq a b = true ↔ a = b) {l : List D} {m : Nat} {a x : D} (hm : 0 < m) (ha : l[m - 1]? = some a) (hx : l[m]? = some x) :
    compB eq (l.take (m + 1)) = if eq x a then compB eq (l.take m) else compB eq (l.take m) ++ [x] := by
  have h := compB_snoc he a x (l.take (m - 1))
  rw [← take_last hm ha] at h
  rw [← h]
  congr 1
  rw [List.take_add_one, hx, take_last hm ha]
  simp
structure CompL {D : Type} (eq : D → D → Bool) (l : List D) (m kk : Nat) (L : List D) : Prop where
  size : L.length = l.length
  low : L.take kk = compB eq (l.take m)
  lt : kk < m
  high : ∀ j, kk ≤ j → L[j]? = l[j]?
theorem CompL.start {D : Type} {eq : D → D → Bool} (he : ∀ a b, eq a b = true ↔ a = b) {l : List D} {k : Nat} {a x : D} (hk : 0 < k) (ha : l[k - 1]? = some a) (hx : l[k]? = some x) (hall : compB eq (l.take k) = l.take k) (hd : eq x a = true) : CompL eq l (k + 1) k l :=
  ⟨rfl, by rw [compB_take he hk ha hx, if_pos hd, hall], Nat.lt_succ_self _, fun _ _ => rfl⟩
theorem CompL.skip {D : Type} {eq : D → D → Bool} (he : ∀ a b, eq a b = true ↔ a = b) {l L : List D} {m kk : Nat} {a x : D} (h : CompL eq l m kk L) (ha : l[m - 1]? = some a) (hx : l[m]? = some x) (hd : eq x a = true) : CompL eq l (m + 1) kk L :=
  ⟨h.size, by rw [compB_take he (Nat.zero_lt_of_lt h.lt) ha hx, if_pos hd, h.low], Nat.lt_succ_of_lt h.lt, h.high⟩
theorem CompL.keep {D : Type} {eq : D → D → Bool} (he : ∀ a b, eq a b = true ↔ a = b) {l L : List D} {m kk : Nat} {a x : D} (h : CompL eq l m kk L) (ha : l[m - 1]? = some a) (hx : l[m]? = some x) (hd : eq x a = false) : CompL eq l (m + 1) (kk + 1) (L.set kk x) := by
  have hml := (List.getElem?_eq_some_iff.1 hx).1
  have hlt := h.lt
  have hsz := h.size
  refine ⟨by rw [List.length_set, h.size], ?_, by omega, fun j hj => ?_⟩
  · rw [compB_take he (by omega) ha hx, hd]
    simp only [Bool.false_eq_true, if_false]
    rw [← h.low, List.take_add_one, List.getElem?_set_self (by omega)]
    congr 1
    apply List.ext_getElem?
    intro i
    rw [List.getElem?_take, List.getElem?_take]
    split
    · rw [List.getElem?_set_ne (by omega)]
    · rfl
  · rw [List.getElem?_set_ne (by omega)]
    exact h.high j (by omega)
theorem CompL.len {D : Type} {eq : D → D → Bool} {l L : List D} {m kk : Nat} (h : CompL eq l m kk L) (hm : m ≤ l.length) : (compB eq (l.take m)).length = kk := by
  rw [← h.low, List.length_take, h.size]
  have := h.lt
  omega
theorem compB_short {D : Type} (eq : D → D → Bool) {l : List D} (h : l.length < 2) : compB eq l = l := by
  match l, h with
  | [], _ => rfl
  | [a], _ => rfl
/-- The first k members stand as they are. -/
def FixB {D : Type} (eq : D → D → Bool) (l : List D) (k : Nat) : Prop := compB eq (l.take k) = l.take k
/-- A member stored. -/
theorem RowE.store {D : Type} {enc : D → List Value} {sz ty base g n c k : Nat} {w : World} {l : List D} {x : D} (hk : ∀ d, (enc d).length = sz) (hs : 0 < sz) (h : RowE enc sz ty base w l (.slice (some ⟨g, 0, none⟩) n c)) (hkl : k < l.length) :
    RowE enc sz ty base (w.setCells g (k * sz) (enc x)) (l.set k x) (.slice (some ⟨g, 0, none⟩) n c) := by
  obtain ⟨rfl, hb, h1, h2, cur, hg, hcs, hrow⟩ := h.at hk
  have hcell : (k + 1) * sz ≤ l.length * sz := Nat.mul_le_mul_right _ hkl
  have hlc : l.length * sz ≤ c * sz := Nat.mul_le_mul_right _ h1
  rw [Nat.succ_mul] at hcell
  have hput : (w.setCells g (k * sz) (enc x)).heap[g]? = some (.cells (putAt cur (k * sz) (enc x)) ty (0, 0)) := by rw [← put_is_set]; exact heap_putCells (enc x) w g (k * sz) cur ty hg
  refine ⟨by rw [flatE_len hk], .inr ⟨g, c, _, by rw [List.length_set], hb, hput, by rw [List.length_set]; exact h1, by unfold maxLen; omega, by rw [size_putAt, hcs], ?_⟩⟩
  apply List.ext_getElem?
  intro i
  rw [List.length_set, List.getElem?_take]
  by_cases hi : i < l.length * sz
  · rw [if_pos hi, Array.getElem?_toList]
    have hi2 : i / sz < l.length := by rwa [Nat.div_lt_iff_lt_mul hs]
    have h3 : i / sz * sz + i % sz = i := by rw [Nat.mul_comm]; exact Nat.div_add_mod i sz
    have hm := Nat.mod_lt i hs
    by_cases he : i / sz = k
    · have h4 := flatE_at hk (l := l.set k x) (i := k) (d := x) (by rw [List.getElem?_set_self hkl]) hm
      have h6 : k * sz + i % sz = i := by rw [← he]; exact h3
      rw [h6] at h4
      rw [h4]
      have h7 := get_putAt (enc x) cur (k * sz) (i % sz) (by rw [hk]; exact hm) (by rw [hk]; omega)
      rw [h6] at h7
      exact h7
    · obtain ⟨d, hd⟩ := exists_at hi2
      have h4 := flatE_at hk (l := l.set k x) (i := i / sz) (d := d) (by rw [List.getElem?_set_ne (fun e => he e.symm)]; exact hd) hm
      rw [h3] at h4
      have h5 := hrow _ d hd _ hm
      rw [h3] at h5
      rw [h4, ← h5]
      rcases Nat.lt_or_gt_of_ne he with hlt | hgt
      · refine get_putAt_lt _ _ _ _ ?_
        have : (i / sz + 1) * sz ≤ k * sz := Nat.mul_le_mul_right _ hlt
        rw [Nat.succ_mul] at this
        omega
      · refine get_putAt_ge _ _ _ _ ?_
        have : (k + 1) * sz ≤ i / sz * sz := Nat.mul_le_mul_right _ hgt
        rw [Nat.succ_mul] at this
        rw [hk]
        omega
  · rw [if_neg hi, List.getElem?_eq_none (by rw [flatE_len hk, List.length_set]; omega)]
theorem flatE_take {D : Type} {enc : D → List Value} {sz : Nat} (hk : ∀ d, (enc d).length = sz) (l : List D) (k : Nat) (h : k ≤ l.length) : flatE enc (l.take k) = (flatE enc l).take (k * sz) := by
  have h1 : flatE enc l = flatE enc (l.take k) ++ flatE enc (l.drop k) := by rw [← flatE_app, List.take_append_drop]
  have h2 : (flatE enc (l.take k)).length = k * sz := by rw [flatE_len hk, List.length_take]; congr 1; omega
  rw [h1, ← h2, List.take_left']
  rfl
/-- The row cut, whatever has been stored behind. -/
theorem RowE.cut {D : Type} {enc : D → List Value} {sz ty base g n c k : Nat} {w : World} {l : List D} {zs : List Value} (hk : ∀ d, (enc d).length = sz) (h : RowE enc sz ty base w l (.slice (some ⟨g, 0, none⟩) n c)) (hkl : k ≤ l.length) :
    RowE enc sz ty base (w.setCells g (k * sz) zs) (l.take k) (.slice (some ⟨g, 0, none⟩) k c) := by
  have hlt : (l.take k).length = k := by rw [List.length_take]; omega
  have h0 := h
  obtain ⟨rfl, hb, h1, h2, cur, hg, hcs, -⟩ := h.at hk
  have hput : (w.setCells g (k * sz) zs).heap[g]? = some (.cells (putAt cur (k * sz) zs) ty (0, 0)) := by rw [← put_is_set]; exact heap_putCells zs w g (k * sz) cur ty hg
  refine ⟨by rw [flatE_len hk], .inr ⟨g, c, _, by rw [hlt], hb, hput, by rw [hlt]; omega, by unfold maxLen; omega, by rw [size_putAt, hcs], ?_⟩⟩
  rw [hlt, flatE_take hk l k hkl]
  obtain ⟨cur2, hg2, -, -, -, ht, -⟩ := own_row h0
  rw [hg] at hg2
  simp only [Option.some.injEq, Obj.cells.injEq, and_true] at hg2
  subst hg2
  have hks : k * sz ≤ l.length * sz := Nat.mul_le_mul_right _ hkl
  rw [← ht, List.take_take, Nat.min_eq_left hks]
  apply List.ext_getElem?
  intro i
  rw [List.getElem?_take, List.getElem?_take]
  split
  · rw [Array.getElem?_toList, Array.getElem?_toList]
    exact get_putAt_lt _ _ _ _ (by assumption)
  · rfl
theorem aside_setCells {S : Nat → Prop} {g : Nat} (hS : S g) : ∀ (vs : List Value) (o : Nat) (w : World), Aside S w (w.setCells g o vs)
  | [], _, _ => Aside.refl _ _
  | _ :: vs, o, w => (Aside.setCell (p := ⟨g, o, none⟩) (Aside.refl S w) hS).trans (aside_setCells hS vs (o + 1) _)
/-- One member in a row of its own. -/
theorem sl_one {D : Type} {C : D → List Value → Prop} {enc : D → List Value} {sz : Nat} (hk : ∀ d, (enc d).length = sz) (w : World) (d : D) (hC : C d (enc d)) (ty : TypeId) (cs : Array Value) (hc : cs = (enc d).toArray) :
    SlOf C sz w.heap.size (w.alloc (.cells cs ty)).heap.size (w.alloc (.cells cs ty)) [d] (.slice (some ⟨w.heap.size, 0, none⟩) 1 1) := by
  subst hc
  refine ⟨_, _, rfl, Nat.le_refl _, by decide, fun _ => ⟨w.heap.size, 0, rfl, Nat.le_refl _, by simp, fun i d' hd => ⟨enc d, hk d, fun j hj => ?_, ?_⟩⟩⟩
  · have hi : i = 0 := by
      have := (List.getElem?_eq_some_iff.1 hd).1
      simp at this
      exact this
    subst hi
    rw [cell_of_row _ _ _ _ _ _ (heap_alloc_new w _)]
    simp
  · have hi : i = 0 := by
      have := (List.getElem?_eq_some_iff.1 hd).1
      simp at this
      exact this
    subst hi
    simp at hd
    subst hd
    exact hC
/-- 'clear(s)' of a row of structs. -/
theorem run_clear_row {P : Program} (w : World) (t e : TypeId) (z : Value) (sz : Nat) (ht : P.underlying t = some (.slice e)) (hv : ∀ w, (zeroValue e).run P w = .ok z w) (hz : z.cells.size = sz) (h1 : ∀ v ∈ z.cells.toList, v.oneCell' = true) (b o n c : Nat) (hn : 0 < n)
    (hc : ∀ j, j < n * sz → (w.cell? ⟨b, o + j, none⟩).isSome = true) (hf : ∀ j, j < n * sz → w.frozen? ⟨b, o + j, none⟩ = false) :
    ∃ zs, zs.length = n * sz ∧ ∀ ty, (Builtin.clear_ #[t] ty #[.slice (some ⟨b, o, none⟩) n c]).run P w = .ok (.tuple #[]) (w.setCells b o zs) := by
  have hzl : (Builtin.zeroCells z.cells n).toList.length = n * sz := by simp [Builtin.zeroCells, hz]
  refine ⟨_, hzl, fun ty => ?_⟩
  have hst := run_storeCells_cells (P := P) b o (Builtin.zeroCells z.cells n).toList 0 w (by rw [hzl]; simpa using hc) (by rw [hzl]; simpa using hf) (fun v hv' => by
    unfold Builtin.zeroCells at hv'
    rw [Array.toList_map] at hv'
    obtain ⟨i, hi, rfl⟩ := List.mem_map.1 hv'
    rw [Array.mem_toList_iff, Array.mem_range] at hi
    have hp : 0 < z.cells.size := Nat.pos_of_ne_zero (fun h0 => by rw [h0] at hi; omega)
    have hm := Nat.mod_lt i hp
    rw [getElem!_pos z.cells _ hm]
    exact h1 _ (by simp))
  simp only [Nat.add_zero] at hst
  obtain ⟨m, rfl⟩ : ∃ m, n = m + 1 := ⟨n - 1, by omega⟩
  simp [Builtin.clear_, run_underlying ht, hv, hst]
end Go.Proofs.Ytmhlnbihppojmaa
