/- Written by wip/tools/pack.py: the texts that FnExactPodNormal needs, without what it does not need. No conditions. -/
import Derived.Test.YtmhlnbihppojmaaGreatKFnExactPodNormal3
import Derived.Sort.Statements
import Derived.Lib.SliceRun
import Derived.Test.YtmhlnbihppojmaaGreatKFnExactPodNormal1
namespace Go.Proofs.YtmhlnbihppojmaaGreat
open Go.RowKit
structure Tot {D : Type} (lt eq : D → D → Bool) : Prop where
  irrefl : ∀ a, lt a a = false
  trans : ∀ a b c, lt a b = true → lt b c = true → lt a c = true
  tri : ∀ a b, lt a b = false → lt b a = false → a = b
  eq : ∀ a b, eq a b = true ↔ a = b
/-- In strict order. -/
def Asc {D : Type} (lt : D → D → Bool) (l : List D) : Prop := l.Pairwise fun a b => lt a b = true
theorem Tot.asymm {D : Type} {lt eq : D → D → Bool} (h : Tot lt eq) {a b : D} (h1 : lt a b = true) : lt b a = false := by
  rcases h2 : lt b a with _ | _
  · rfl
  · have := h.trans a b a h1 h2
    rw [h.irrefl] at this
    cases this
/-- Two lists in strict order with the same members are the same list. -/
theorem Asc.unique {D : Type} {lt eq : D → D → Bool} (h : Tot lt eq) : ∀ {l m : List D}, Asc lt l → Asc lt m → (∀ x, x ∈ l ↔ x ∈ m) → l = m
  | [], [], _, _, _ => rfl
  | [], b :: m, _, _, he => by have := (he b).2 (by simp); cases this
  | a :: l, [], _, _, he => by have := (he a).1 (by simp); cases this
  | a :: l, b :: m, hl, hm, he => by
    unfold Asc at hl hm
    rw [List.pairwise_cons] at hl hm
    have hab : a = b := by
      have h1 := (he a).1 (by simp)
      have h2 := (he b).2 (by simp)
      rcases List.mem_cons.1 h1 with h1 | h1
      · exact h1
      · rcases List.mem_cons.1 h2 with h2 | h2
        · exact h2.symm
        · have h3 := hm.1 a h1
          have h4 := hl.1 b h2
          rw [h.asymm h3] at h4
          cases h4
    subst hab
    congr 1
    refine Asc.unique h hl.2 hm.2 (fun x => ⟨fun hx => ?_, fun hx => ?_⟩)
    · rcases List.mem_cons.1 ((he x).1 (List.mem_cons_of_mem _ hx)) with h1 | h1
      · subst h1
        have := hl.1 x hx
        rw [h.irrefl] at this
        cases this
      · exact h1
    · rcases List.mem_cons.1 ((he x).2 (List.mem_cons_of_mem _ hx)) with h1 | h1
      · subst h1
        have := hm.1 x hx
        rw [h.irrefl] at this
        cases this
      · exact h1
/-- The first place whose member is not less than x. -/
def placeB {D : Type} (lt : D → D → Bool) (l : List D) (x : D) : Nat := (l.takeWhile fun y => lt y x).length
theorem placeB_le {D : Type} (lt : D → D → Bool) (l : List D) (x : D) : placeB lt l x ≤ l.length := by
  unfold placeB
  induction l with
  | nil => simp
  | cons a l ih =>
    rw [List.takeWhile_cons]
    split
    · simpa using ih
    · simp
theorem placeB_lt {D : Type} (lt : D → D → Bool) (x : D) : ∀ (l : List D) (i : Nat) (d : D), i < placeB lt l x → l[i]? = some d → lt d x = true
  | [], i, d, _, h => by cases h
  | a :: l, i, d, hi, h => by
    unfold placeB at hi
    rw [List.takeWhile_cons] at hi
    split at hi
    · rename_i ha
      cases i with
      | zero => simp at h; subst h; exact ha
      | succ i => exact placeB_lt lt x l i d (by unfold placeB; simpa using hi) (by simpa using h)
    · simp at hi
theorem placeB_at {D : Type} (lt : D → D → Bool) (x : D) : ∀ (l : List D) (d : D), l[placeB lt l x]? = some d → lt d x = false
  | [], d, h => by simp at h
  | a :: l, d, h => by
    rcases ha : lt a x with _ | _
    · have : placeB lt (a :: l) x = 0 := by unfold placeB; rw [List.takeWhile_cons, ha]; rfl
      rw [this] at h
      simp at h
      subst h
      exact ha
    · have : placeB lt (a :: l) x = placeB lt l x + 1 := by unfold placeB; rw [List.takeWhile_cons, ha]; rfl
      rw [this] at h
      exact placeB_at lt x l d (by simpa using h)
/-- What place is: all below are less, the member there is not. -/
theorem placeB_is {D : Type} {lt : D → D → Bool} {x : D} : ∀ {l : List D} {k : Nat}, k ≤ l.length → (∀ i d, i < k → l[i]? = some d → lt d x = true) → (∀ d, l[k]? = some d → lt d x = false) → placeB lt l x = k
  | [], k, hk, _, _ => by simp at hk; subst hk; rfl
  | a :: l, 0, _, _, h => by unfold placeB; rw [List.takeWhile_cons, h a rfl]; rfl
  | a :: l, k + 1, hk, h1, h2 => by
    have ha := h1 0 a (by omega) rfl
    have ih := placeB_is (l := l) (k := k) (by simpa using hk) (fun i d hi hd => h1 (i + 1) d (by omega) (by simpa using hd)) (fun d hd => h2 d (by simpa using hd))
    unfold placeB at ih ⊢
    rw [List.takeWhile_cons, ha]
    simpa using ih
def insB {D : Type} (lt eq : D → D → Bool) (l : List D) (x : D) : List D :=
  match l[placeB lt l x]? with
  | none => l ++ [x]
  | some y => if eq y x then l else l.take (placeB lt l x) ++ [x] ++ l.drop (placeB lt l x)
def ordB {D : Type} (lt eq : D → D → Bool) (l : List D) : List D := l.foldl (insB lt eq) []
theorem insB_all {D : Type} {lt eq : D → D → Bool} (h : Tot lt eq) {l : List D} {x : D} (hl : Asc lt l) : Asc lt (insB lt eq l x) ∧ ∀ y, y ∈ insB lt eq l x ↔ y ∈ l ∨ y = x := by
  unfold insB
  rcases hy : l[placeB lt l x]? with _ | y
  · have hk : l.length ≤ placeB lt l x := by simpa using hy
    refine ⟨?_, fun y => by simp⟩
    unfold Asc
    rw [List.pairwise_append]
    refine ⟨hl, by simp, fun a ha b hb => ?_⟩
    simp at hb
    subst hb
    obtain ⟨i, hi⟩ := List.getElem?_of_mem ha
    exact placeB_lt lt b l i a (Nat.lt_of_lt_of_le (List.getElem?_eq_some_iff.1 hi).1 hk) hi
  · rcases he : eq y x with _ | _
    · simp only [he, Bool.false_eq_true, if_false]
      have hkl : placeB lt l x < l.length := (List.getElem?_eq_some_iff.1 hy).1
      have hyx : lt x y = true := by
        rcases h1 : lt x y with _ | _
        · have := h.tri x y h1 (placeB_at lt x l y hy)
          have := (h.eq y x).2 this.symm
          rw [he] at this
          cases this
        · rfl
      have hsplit : l.take (placeB lt l x) ++ l.drop (placeB lt l x) = l := List.take_append_drop _ _
      have hp : Asc lt (l.take (placeB lt l x) ++ l.drop (placeB lt l x)) := by rw [hsplit]; exact hl
      unfold Asc at hp ⊢
      rw [List.pairwise_append] at hp
      have hlow : ∀ a ∈ l.take (placeB lt l x), lt a x = true := by
        intro a ha
        obtain ⟨i, hi⟩ := List.getElem?_of_mem ha
        rw [List.getElem?_take] at hi
        split at hi
        · exact placeB_lt lt x l i a (by assumption) hi
        · cases hi
      have hhigh : ∀ b ∈ l.drop (placeB lt l x), lt x b = true := by
        intro b hb
        have hd : l.drop (placeB lt l x) = y :: l.drop (placeB lt l x + 1) := by
          rw [List.drop_eq_getElem_cons hkl]
          congr 1
          exact (List.getElem?_eq_some_iff.1 hy).2
        rw [hd] at hb
        rcases List.mem_cons.1 hb with rfl | hb
        · exact hyx
        · have h2 := hp.2.1
          rw [hd, List.pairwise_cons] at h2
          exact h.trans x y b hyx (h2.1 b hb)
      refine ⟨?_, fun z => ?_⟩
      · rw [List.append_assoc, List.pairwise_append]
        refine ⟨hp.1, ?_, ?_⟩
        · rw [List.singleton_append, List.pairwise_cons]
          exact ⟨hhigh, hp.2.1⟩
        · intro a ha b hb
          rw [List.singleton_append] at hb
          rcases List.mem_cons.1 hb with rfl | hb
          · exact hlow a ha
          · exact hp.2.2 a ha b hb
      · have e : z ∈ l ↔ z ∈ l.take (placeB lt l x) ++ l.drop (placeB lt l x) := by rw [hsplit]
        rw [e]
        simp only [List.mem_append, List.mem_singleton]
        constructor
        · rintro ((h1 | h1) | h1)
          · exact .inl (.inl h1)
          · exact .inr h1
          · exact .inl (.inr h1)
        · rintro ((h1 | h1) | h1)
          · exact .inl (.inl h1)
          · exact .inr h1
          · exact .inl (.inr h1)
    · simp only [he, if_true]
      have := (h.eq y x).1 he
      subst this
      refine ⟨hl, fun z => ⟨.inl, ?_⟩⟩
      rintro (h1 | rfl)
      · exact h1
      · exact List.mem_of_getElem? hy
theorem ordB_all {D : Type} {lt eq : D → D → Bool} (h : Tot lt eq) (l : List D) : Asc lt (ordB lt eq l) ∧ ∀ y, y ∈ ordB lt eq l ↔ y ∈ l := by
  have H : ∀ (l acc : List D), Asc lt acc → Asc lt (l.foldl (insB lt eq) acc) ∧ ∀ y, y ∈ l.foldl (insB lt eq) acc ↔ y ∈ acc ∨ y ∈ l := by
    intro l
    induction l with
    | nil => intro acc ha; exact ⟨ha, fun y => by simp⟩
    | cons x l ih =>
      intro acc ha
      obtain ⟨h1, h2⟩ := insB_all h (x := x) ha
      obtain ⟨h3, h4⟩ := ih _ h1
      refine ⟨h3, fun y => ?_⟩
      show y ∈ l.foldl (insB lt eq) (insB lt eq acc x) ↔ _
      rw [h4, h2, List.mem_cons]
      constructor
      · rintro ((h1 | h1) | h1)
        · exact .inl h1
        · exact .inr (.inl h1)
        · exact .inr (.inr h1)
      · rintro (h1 | h1 | h1)
        · exact .inl (.inl h1)
        · exact .inl (.inr h1)
        · exact .inr h1
  have := H l [] List.Pairwise.nil
  exact ⟨this.1, fun y => by rw [show ordB lt eq l = l.foldl (insB lt eq) [] from rfl, this.2]; simp⟩
/-- Neighbours that are alike are dropped. -/
def compB {D : Type} (eq : D → D → Bool) : List D → List D
  | [] => []
  | [a] => [a]
  | a :: b :: l => if eq b a then compB eq (b :: l) else a :: compB eq (b :: l)
theorem compB_all {D : Type} {lt eq : D → D → Bool} (h : Tot lt eq) : ∀ (l : List D), l.Pairwise (fun a b => lt b a = false) → Asc lt (compB eq l) ∧ ∀ y, y ∈ compB eq l ↔ y ∈ l
  | [], _ => ⟨List.Pairwise.nil, fun y => Iff.rfl⟩
  | [a], _ => ⟨List.pairwise_singleton _ _, fun y => Iff.rfl⟩
  | a :: b :: l, hp => by
    rw [List.pairwise_cons] at hp
    obtain ⟨h1, h2⟩ := compB_all h (b :: l) hp.2
    unfold compB
    split
    · rename_i he
      have := (h.eq b a).1 he
      subst this
      exact ⟨h1, fun y => by rw [h2]; simp⟩
    · rename_i he
      refine ⟨?_, fun y => by rw [List.mem_cons, h2, ← List.mem_cons]⟩
      unfold Asc
      rw [List.pairwise_cons]
      refine ⟨fun y hy => ?_, h1⟩
      have hab : lt a b = true := by
        rcases h3 : lt a b with _ | _
        · have := h.tri a b h3 (hp.1 b (by simp))
          exact absurd ((h.eq b a).2 this.symm) he
        · rfl
      have hy2 := (h2 y).1 hy
      rcases List.mem_cons.1 hy2 with rfl | hy2
      · exact hab
      · have h3 := List.pairwise_cons.1 hp.2
        have h4 := h3.1 y hy2
        rcases h5 : lt b y with _ | _
        · have := h.tri b y h5 h4
          subst this
          exact hab
        · exact h.trans a b y hab h5
/-- Sorted and without doubles: what the insertion makes. -/
theorem comp_is_ord {D : Type} {lt eq : D → D → Bool} (h : Tot lt eq) {l m : List D} (hp : m.Pairwise (fun a b => lt b a = false)) (hm : ∀ x, x ∈ m ↔ x ∈ l) : compB eq m = ordB lt eq l := by
  obtain ⟨h1, h2⟩ := compB_all h m hp
  obtain ⟨h3, h4⟩ := ordB_all h l
  exact Asc.unique h h1 h3 (fun x => by rw [h2, h4, hm])
theorem swo_of {D : Type} {lt eq : D → D → Bool} (h : Tot lt eq) : Go.Sort.SWO lt :=
  ⟨h.irrefl, h.trans, fun x y z h1 h2 => by
    rcases h3 : lt x z with _ | _
    · rfl
    · rcases h4 : lt y x with _ | _
      · have := h.tri x y h1 h4
        subst this
        rw [h3] at h2
        cases h2
      · have := h.trans y x z h4 h3
        rw [h2] at this
        cases this⟩
theorem insB_len {D : Type} (lt eq : D → D → Bool) (l : List D) (x : D) : (insB lt eq l x).length ≤ l.length + 1 := by
  unfold insB
  split
  · simp
  · split
    · omega
    · simp; omega
end Go.Proofs.YtmhlnbihppojmaaGreat
namespace Go.Proofs.YtmhlnbihppojmaaGreat
open Go.RowKit
theorem ordB_len {D : Type} (lt eq : D → D → Bool) (l : List D) : (ordB lt eq l).length ≤ l.length := by
  have H : ∀ (l acc : List D), (l.foldl (insB lt eq) acc).length ≤ acc.length + l.length := by
    intro l
    induction l with
    | nil => intro acc; simp
    | cons x l ih =>
      intro acc
      have h1 := ih (insB lt eq acc x)
      have h2 := insB_len lt eq acc x
      simp only [List.foldl_cons, List.length_cons]
      omega
  have := H l []
  unfold ordB
  simpa using this
theorem ordB_step {D : Type} {lt eq : D → D → Bool} {l : List D} {k : Nat} {d : D} (h : l[k]? = some d) : ordB lt eq (l.take (k + 1)) = insB lt eq (ordB lt eq (l.take k)) d := by
  unfold ordB
  rw [List.take_add_one, h, List.foldl_append]
  rfl
theorem RowE.at {D : Type} {enc : D → List Value} {sz ty base g n c : Nat} {w : World} {l : List D} (hk : ∀ d, (enc d).length = sz) (h : RowE enc sz ty base w l (.slice (some ⟨g, 0, none⟩) n c)) :
    n = l.length ∧ base ≤ g ∧ l.length ≤ c ∧ c ≤ 9223372036854775807 ∧ ∃ cur, w.heap[g]? = some (.cells cur ty (0, 0)) ∧ cur.size = c * sz ∧ ∀ i d, l[i]? = some d → ∀ j, j < sz → cur[i * sz + j]? = (enc d)[j]? := by
  have h0 := h
  obtain ⟨hl, h1⟩ := h
  rcases h1 with ⟨h2, -⟩ | ⟨g', cap, cur, hv, hb, hg, hn, hcm, hcs, ht⟩
  · cases h2
  · simp only [Value.slice.injEq, Option.some.injEq, Addr.mk.injEq, and_true] at hv
    obtain ⟨rfl, rfl, rfl⟩ := hv
    refine ⟨rfl, hb, hn, by unfold maxLen at hcm; omega, cur, hg, hcs, fun i d hd j hj => ?_⟩
    have hi : i < l.length := (List.getElem?_eq_some_iff.1 hd).1
    have h2 := Nat.mul_le_mul_right sz hi
    rw [Nat.succ_mul] at h2
    have : (cur.toList.take (l.length * sz))[i * sz + j]? = (flatE enc l)[i * sz + j]? := by rw [ht]
    rw [List.getElem?_take, if_pos (by omega), Array.getElem?_toList, flatE_at hk hd hj] at this
    exact this
end Go.Proofs.YtmhlnbihppojmaaGreat
namespace Go.Proofs.YtmhlnbihppojmaaGreat
open Go.RowKit
theorem compB_two {D : Type} (eq : D → D → Bool) (a b : D) (l : List D) : compB eq (a :: b :: l) = if eq b a then compB eq (b :: l) else a :: compB eq (b :: l) := rfl
theorem put_is_set (g : Nat) : ∀ (vs : List Value) (w : World) (o : Nat), putCells w g o vs = w.setCells g o vs
  | [], _, _ => rfl
  | v :: vs, w, o => put_is_set g vs (w.setCell ⟨g, o, none⟩ v) (o + 1)
theorem compB_snoc {D : Type} {eq : D → D → Bool} (he : ∀ a b, eq a b = true ↔ a = b) (a x : D) : ∀ l : List D, compB eq (l ++ [a, x]) = if eq x a then compB eq (l ++ [a]) else compB eq (l ++ [a]) ++ [x]
  | [] => by
    show compB eq [a, x] = if eq x a then compB eq [a] else compB eq [a] ++ [x]
    unfold compB
    by_cases h : eq x a = true
    · rw [if_pos h, if_pos h]
      have := (he x a).1 h
      subst this
      rfl
    · rw [if_neg h, if_neg h]
      rfl
  | [b] => by
    have ih := compB_snoc he a x []
    simp only [List.nil_append] at ih
    show compB eq (b :: a :: [x]) = if eq x a then compB eq (b :: a :: []) else compB eq (b :: a :: []) ++ [x]
    rw [compB_two eq b a [x], compB_two eq b a [], ih]
    by_cases h : eq x a = true <;> by_cases h2 : eq a b = true <;> simp [h, h2]
  | b :: c :: l => by
    have ih := compB_snoc he a x (c :: l)
    simp only [List.cons_append] at ih
    show compB eq (b :: c :: (l ++ [a, x])) = if eq x a then compB eq (b :: c :: (l ++ [a])) else compB eq (b :: c :: (l ++ [a])) ++ [x]
    rw [compB_two eq b c (l ++ [a, x]), compB_two eq b c (l ++ [a]), ih]
    by_cases h : eq x a = true <;> by_cases h2 : eq c b = true <;> simp [h, h2]
theorem take_last {D : Type} {l : List D} {m : Nat} {a : D} (hm : 0 < m) (ha : l[m - 1]? = some a) : l.take m = l.take (m - 1) ++ [a] := by
  have h := List.take_add_one (l := l) (i := m - 1)
  rw [show m - 1 + 1 = m by omega, ha] at h
  exact h
theorem compB_take {D : Type} {eq : D → D → Bool} (he : ∀ a b, eq a b = true ↔ a = b) {l : List D} {m : Nat} {a x : D} (hm : 0 < m) (ha : l[m - 1]? = some a) (hx : l[m]? = some x) :
    compB eq (l.take (m + 1)) = if eq x a then compB eq (l.take m) else compB eq (l.take m) ++ [x] := by
  have h := compB_snoc he a x (l.take (m - 1))
  rw [← take_last hm ha] at h
  rw [← h]
  congr 1
  rw [List.take_add_one, hx, take_last hm ha]
  simp
structure CompL {D : Type} (eq : D → D → Bool) (l : List D) (m kk : Nat) (L : List D) : Prop where
  size : L.length = l.length
  low : L.take kk = compB eq (l.take m)
  lt : kk < m
  high : ∀ j, kk ≤ j → L[j]? = l[j]?
theorem CompL.start {D : Type} {eq : D → D → Bool} (he : ∀ a b, eq a b = true ↔ a = b) {l : List D} {k : Nat} {a x : D} (hk : 0 < k) (ha : l[k - 1]? = some a) (hx : l[k]? = some x) (hall : compB eq (l.take k) = l.take k) (hd : eq x a = true) : CompL eq l (k + 1) k l :=
  ⟨rfl, by rw [compB_take he hk ha hx, if_pos hd, hall], Nat.lt_succ_self _, fun _ _ => rfl⟩
theorem CompL.skip {D : Type} {eq : D → D → Bool} (he : ∀ a b, eq a b = true ↔ a = b) {l L : List D} {m kk : Nat} {a x : D} (h : CompL eq l m kk L) (ha : l[m - 1]? = some a) (hx : l[m]? = some x) (hd : eq x a = true) : CompL eq l (m + 1) kk L :=
  ⟨h.size, by rw [compB_take he (Nat.zero_lt_of_lt h.lt) ha hx, if_pos hd, h.low], Nat.lt_succ_of_lt h.lt, h.high⟩
theorem CompL.keep {D : Type} {eq : D → D → Bool} (he : ∀ a b, eq a b = true ↔ a = b) {l L : List D} {m kk : Nat} {a x : D} (h : CompL eq l m kk L) (ha : l[m - 1]? = some a) (hx : l[m]? = some x) (hd : eq x a = false) : CompL eq l (m + 1) (kk + 1) (L.set kk x) := by
  have hml := (List.getElem?_eq_some_iff.1 hx).1
  have hlt := h.lt
  have hsz := h.size
  refine ⟨by rw [List.length_set, h.size], ?_, by omega, fun j hj => ?_⟩
  · rw [compB_take he (by omega) ha hx, hd]
    simp only [Bool.false_eq_true, if_false]
    rw [← h.low, List.take_add_one, List.getElem?_set_self (by omega)]
    congr 1
    apply List.ext_getElem?
    intro i
    rw [List.getElem?_take, List.getElem?_take]
    split
    · rw [List.getElem?_set_ne (by omega)]
    · rfl
  · rw [List.getElem?_set_ne (by omega)]
    exact h.high j (by omega)
theorem CompL.len {D : Type} {eq : D → D → Bool} {l L : List D} {m kk : Nat} (h : CompL eq l m kk L) (hm : m ≤ l.length) : (compB eq (l.take m)).length = kk := by
  rw [← h.low, List.length_take, h.size]
  have := h.lt
  omega
theorem compB_short {D : Type} (eq : D → D → Bool) {l : List D} (h : l.length < 2) : compB eq l = l := by
  match l, h with
  | [], _ => rfl
  | [a], _ => rfl
/-- The first k members stand as they are. -/
def FixB {D : Type} (eq : D → D → Bool) (l : List D) (k : Nat) : Prop := compB eq (l.take k) = l.take k
/-- A member stored. -/
theorem RowE.store {D : Type} {enc : D → List Value} {sz ty base g n c k : Nat} {w : World} {l : List D} {x : D} (hk : ∀ d, (enc d).length = sz) (hs : 0 < sz) (h : RowE enc sz ty base w l (.slice (some ⟨g, 0, none⟩) n c)) (hkl : k < l.length) :
    RowE enc sz ty base (w.setCells g (k * sz) (enc x)) (l.set k x) (.slice (some ⟨g, 0, none⟩) n c) := by
  obtain ⟨rfl, hb, h1, h2, cur, hg, hcs, hrow⟩ := h.at hk
  have hcell : (k + 1) * sz ≤ l.length * sz := Nat.mul_le_mul_right _ hkl
  have hlc : l.length * sz ≤ c * sz := Nat.mul_le_mul_right _ h1
  rw [Nat.succ_mul] at hcell
  have hput : (w.setCells g (k * sz) (enc x)).heap[g]? = some (.cells (putAt cur (k * sz) (enc x)) ty (0, 0)) := by rw [← put_is_set]; exact heap_putCells (enc x) w g (k * sz) cur ty hg
  refine ⟨by rw [flatE_len hk], .inr ⟨g, c, _, by rw [List.length_set], hb, hput, by rw [List.length_set]; exact h1, by unfold maxLen; omega, by rw [size_putAt, hcs], ?_⟩⟩
  apply List.ext_getElem?
  intro i
  rw [List.length_set, List.getElem?_take]
  by_cases hi : i < l.length * sz
  · rw [if_pos hi, Array.getElem?_toList]
    have hi2 : i / sz < l.length := by rwa [Nat.div_lt_iff_lt_mul hs]
    have h3 : i / sz * sz + i % sz = i := by rw [Nat.mul_comm]; exact Nat.div_add_mod i sz
    have hm := Nat.mod_lt i hs
    by_cases he : i / sz = k
    · have h4 := flatE_at hk (l := l.set k x) (i := k) (d := x) (by rw [List.getElem?_set_self hkl]) hm
      have h6 : k * sz + i % sz = i := by rw [← he]; exact h3
      rw [h6] at h4
      rw [h4]
      have h7 := get_putAt (enc x) cur (k * sz) (i % sz) (by rw [hk]; exact hm) (by rw [hk]; omega)
      rw [h6] at h7
      exact h7
    · obtain ⟨d, hd⟩ := exists_at hi2
      have h4 := flatE_at hk (l := l.set k x) (i := i / sz) (d := d) (by rw [List.getElem?_set_ne (fun e => he e.symm)]; exact hd) hm
      rw [h3] at h4
      have h5 := hrow _ d hd _ hm
      rw [h3] at h5
      rw [h4, ← h5]
      rcases Nat.lt_or_gt_of_ne he with hlt | hgt
      · refine get_putAt_lt _ _ _ _ ?_
        have : (i / sz + 1) * sz ≤ k * sz := Nat.mul_le_mul_right _ hlt
        rw [Nat.succ_mul] at this
        omega
      · refine get_putAt_ge _ _ _ _ ?_
        have : (k + 1) * sz ≤ i / sz * sz := Nat.mul_le_mul_right _ hgt
        rw [Nat.succ_mul] at this
        rw [hk]
        omega
  · rw [if_neg hi, List.getElem?_eq_none (by rw [flatE_len hk, List.length_set]; omega)]
theorem flatE_take {D : Type} {enc : D → List Value} {sz : Nat} (hk : ∀ d, (enc d).length = sz) (l : List D) (k : Nat) (h : k ≤ l.length) : flatE enc (l.take k) = (flatE enc l).take (k * sz) := by
  have h1 : flatE enc l = flatE enc (l.take k) ++ flatE enc (l.drop k) := by rw [← flatE_app, List.take_append_drop]
  have h2 : (flatE enc (l.take k)).length = k * sz := by rw [flatE_len hk, List.length_take]; congr 1; omega
  rw [h1, ← h2, List.take_left']
  rfl
/-- The row cut, whatever has been stored behind. -/
theorem RowE.cut {D : Type} {enc : D → List Value} {sz ty base g n c k : Nat} {w : World} {l : List D} {zs : List Value} (hk : ∀ d, (enc d).length = sz) (h : RowE enc sz ty base w l (.slice (some ⟨g, 0, none⟩) n c)) (hkl : k ≤ l.length) :
    RowE enc sz ty base (w.setCells g (k * sz) zs) (l.take k) (.slice (some ⟨g, 0, none⟩) k c) := by
  have hlt : (l.take k).length = k := by rw [List.length_take]; omega
  have h0 := h
  obtain ⟨rfl, hb, h1, h2, cur, hg, hcs, -⟩ := h.at hk
  have hput : (w.setCells g (k * sz) zs).heap[g]? = some (.cells (putAt cur (k * sz) zs) ty (0, 0)) := by rw [← put_is_set]; exact heap_putCells zs w g (k * sz) cur ty hg
  refine ⟨by rw [flatE_len hk], .inr ⟨g, c, _, by rw [hlt], hb, hput, by rw [hlt]; omega, by unfold maxLen; omega, by rw [size_putAt, hcs], ?_⟩⟩
  rw [hlt, flatE_take hk l k hkl]
  obtain ⟨cur2, hg2, -, -, -, ht, -⟩ := own_row h0
  rw [hg] at hg2
  simp only [Option.some.injEq, Obj.cells.injEq, and_true] at hg2
  subst hg2
  have hks : k * sz ≤ l.length * sz := Nat.mul_le_mul_right _ hkl
  rw [← ht, List.take_take, Nat.min_eq_left hks]
  apply List.ext_getElem?
  intro i
  rw [List.getElem?_take, List.getElem?_take]
  split
  · rw [Array.getElem?_toList, Array.getElem?_toList]
    exact get_putAt_lt _ _ _ _ (by assumption)
  · rfl
theorem aside_setCells {S : Nat → Prop} {g : Nat} (hS : S g) : ∀ (vs : List Value) (o : Nat) (w : World), Aside S w (w.setCells g o vs)
  | [], _, _ => Aside.refl _ _
  | _ :: vs, o, w => (Aside.setCell (p := ⟨g, o, none⟩) (Aside.refl S w) hS).trans (aside_setCells hS vs (o + 1) _)
/-- One member in a row of its own. -/
theorem sl_one {D : Type} {C : D → List Value → Prop} {enc : D → List Value} {sz : Nat} (hk : ∀ d, (enc d).length = sz) (w : World) (d : D) (hC : C d (enc d)) (ty : TypeId) (cs : Array Value) (hc : cs = (enc d).toArray) :
    SlOf C sz w.heap.size (w.alloc (.cells cs ty)).heap.size (w.alloc (.cells cs ty)) [d] (.slice (some ⟨w.heap.size, 0, none⟩) 1 1) := by
  subst hc
  refine ⟨_, _, rfl, Nat.le_refl _, by decide, fun _ => ⟨w.heap.size, 0, rfl, Nat.le_refl _, by simp, fun i d' hd => ⟨enc d, hk d, fun j hj => ?_, ?_⟩⟩⟩
  · have hi : i = 0 := by
      have := (List.getElem?_eq_some_iff.1 hd).1
      simp at this
      exact this
    subst hi
    rw [cell_of_row _ _ _ _ _ _ (heap_alloc_new w _)]
    simp
  · have hi : i = 0 := by
      have := (List.getElem?_eq_some_iff.1 hd).1
      simp at this
      exact this
    subst hi
    simp at hd
    subst hd
    exact hC
/-- 'clear(s)' of a row of structs. -/
theorem run_clear_row {P : Program} (w : World) (t e : TypeId) (z : Value) (sz : Nat) (ht : P.underlying t = some (.slice e)) (hv : ∀ w, (zeroValue e).run P w = .ok z w) (hz : z.cells.size = sz) (h1 : ∀ v ∈ z.cells.toList, v.oneCell' = true) (b o n c : Nat) (hn : 0 < n)
    (hc : ∀ j, j < n * sz → (w.cell? ⟨b, o + j, none⟩).isSome = true) (hf : ∀ j, j < n * sz → w.frozen? ⟨b, o + j, none⟩ = false) :
    ∃ zs, zs.length = n * sz ∧ ∀ ty, (Builtin.clear_ #[t] ty #[.slice (some ⟨b, o, none⟩) n c]).run P w = .ok (.tuple #[]) (w.setCells b o zs) := by
  have hzl : (Builtin.zeroCells z.cells n).toList.length = n * sz := by simp [Builtin.zeroCells, hz]
  refine ⟨_, hzl, fun ty => ?_⟩
  have hst := run_storeCells_cells (P := P) b o (Builtin.zeroCells z.cells n).toList 0 w (by rw [hzl]; simpa using hc) (by rw [hzl]; simpa using hf) (fun v hv' => by
    unfold Builtin.zeroCells at hv'
    rw [Array.toList_map] at hv'
    obtain ⟨i, hi, rfl⟩ := List.mem_map.1 hv'
    rw [Array.mem_toList_iff, Array.mem_range] at hi
    have hp : 0 < z.cells.size := Nat.pos_of_ne_zero (fun h0 => by rw [h0] at hi; omega)
    have hm := Nat.mod_lt i hp
    rw [getElem!_pos z.cells _ hm]
    exact h1 _ (by simp))
  simp only [Nat.add_zero] at hst
  obtain ⟨m, rfl⟩ : ∃ m, n = m + 1 := ⟨n - 1, by omega⟩
  simp [Builtin.clear_, run_underlying ht, hv, hst]
end Go.Proofs.YtmhlnbihppojmaaGreat
namespace Go.Proofs.YtmhlnbihppojmaaGreat
open Go.RowKit
def cmpF (a b : Bool) : Int := if a == b then 0 else if b then -1 else 1
def cmpTol (a b : Tolerance) : Int := orI [cmpS a.key b.key, cmpF a.equal b.equal, cmpS a.value b.value, cmpI a.effect b.effect]
def lessTol (a b : Tolerance) : Bool := if !(a.key.toList == b.key.toList) then lessS a.key b.key else if !(a.equal == b.equal) then b.equal else if !(a.value.toList == b.value.toList) then lessS a.value b.value else decide (a.effect < b.effect)
theorem c_spec_l16Before (a b : Tolerance) (ca cb : List Value) (w : World) (ha : C_Tolerance a ca) (hb : C_Tolerance b cb) :
    Calls Tryz.prog 117 #[.agg ca.toArray, .agg cb.toArray] w fun e w' => e = .returned (.bool (lessTol a b)) ∧ Below w.heap.size w w' := by
  obtain ⟨rfl, -, -, -⟩ := ha
  obtain ⟨rfl, -, -, -⟩ := hb
  go_enter Tryz.func117, Tryz.ntmps117
  go_wp2_with fail
  all_goals
    go_ret
    refine ⟨ret_bool ?_, bel⟩
    simp only [lessTol, lessS, *]
    simp_all
theorem c_impl_compareFlags (a b : Bool) (w : World) :
    Calls Tryz.prog 190 #[.bool a, .bool b] w fun e w' => e = .returned (.int .i64 (cmpF a b)) ∧ w = w' := by
  cases a <;> cases b
  all_goals
    go_enter Tryz.func190, Tryz.ntmps190
    go_wp2_with fail
    go_ret
    exact ⟨rfl, rfl⟩
theorem c_impl_compareTolerances (a b : Tolerance) (ca cb : List Value) (w : World) (ha : C_Tolerance a ca) (hb : C_Tolerance b cb) :
    Calls Tryz.prog 127 #[.agg ca.toArray, .agg cb.toArray] w fun e w' => e = .returned (.int .i64 (cmpTol a b)) ∧ Below w.heap.size w w' := by
  obtain ⟨rfl, -, -, -⟩ := ha
  obtain ⟨rfl, -, -, -⟩ := hb
  go_enter Tryz.func127, Tryz.ntmps127
  go_wp2_with fail
  go_region_held3 (fun w' => Below ((w.alloc (.cells #[.string a.key, .bool a.equal, .string a.value, .int .i64 a.effect] 106)).alloc (.cells #[.string b.key, .bool b.equal, .string b.value, .int .i64 b.effect] 106)).heap.size ((w.alloc (.cells #[.string a.key, .bool a.equal, .string a.value, .int .i64 a.effect] 106)).alloc (.cells #[.string b.key, .bool b.equal, .string b.value, .int .i64 b.effect] 106)) w' ∧ (∀ xb xo, xb < ((w.alloc (.cells #[.string a.key, .bool a.equal, .string a.value, .int .i64 a.effect] 106)).alloc (.cells #[.string b.key, .bool b.equal, .string b.value, .int .i64 b.effect] 106)).heap.size → w'.cell? ⟨xb, xo, none⟩ = ((w.alloc (.cells #[.string a.key, .bool a.equal, .string a.value, .int .i64 a.effect] 106)).alloc (.cells #[.string b.key, .bool b.equal, .string b.value, .int .i64 b.effect] 106)).cell? ⟨xb, xo, none⟩)) (first | exact keep_drew _ | exact keep_ext (by assumption) (by assumption) | exact keep_same (by assumption) | exact keep_alloc (by assumption) _) (first | (go_at_call 104; refine (c_strings_Compare _ _ _).mono ?_; rintro e w9 ⟨rfl, rfl⟩) | (go_at_call 105; refine (c_cmp_Compare _ _ _).mono ?_; rintro e w9 ⟨rfl, rfl⟩) | (go_at_call 190; refine (c_impl_compareFlags _ _ _).mono ?_; rintro e w9 ⟨rfl, rfl⟩) | (go_at_call 103; refine (c_cmp_Or4 (cmpS a.key b.key) (cmpF a.equal b.equal) (cmpS a.value b.value) (cmpI a.effect b.effect) _ _ 3 ?_).mono ?_; (focus ((try rw [heap_drew]); (try (refine heap_new ?_; simp)); done)); rintro e w9 ⟨rfl, rfl⟩))
  (have hb := held_step (by assumption); (first | (have hcu2 := Cum.join hcu hb; (try clear hcu); (try clear hc); (try clear hfz); (try clear hsz); (try clear hs0); (try clear hs1); (try clear hs2); (try clear hs3); (try clear hs4); ) | have hcu2 := Cum.mk hb); have hcu := hcu2; clear hcu2; obtain ⟨hc, hfz⟩ := bcell hcu.h; have hsz := hcu.h.size; (try simp at hsz); (try have hs0 := lt_of_succ_le hsz); (try (have hs1 := lt_pred hsz; (try (have hs2 := lt_pred hs1; (try (have hs3 := lt_pred hs2; (try have hs4 := lt_pred hs3))))))))
  go_wp2_with fail
  go_ret
  exact ⟨rfl, bel⟩
theorem lessTol_iff (a b : Tolerance) : lessTol a b = decide (cmpTol a b < 0) := by
  have h1 := cmpS_cases a.key b.key
  have h2 := cmpS_cases a.value b.value
  have h3 := cmpI_cases a.effect b.effect
  unfold lessTol cmpTol cmpF
  rw [beq_toList, beq_toList]
  rcases h1 with ⟨e1, d1⟩ | ⟨e1, d1, l1⟩ | ⟨e1, d1, l1⟩ <;> simp only [e1, d1, orI] <;> simp_all
  rcases a.equal with _ | _ <;> rcases b.equal with _ | _ <;> simp_all
  all_goals
    rcases h2 with ⟨e2, d2⟩ | ⟨e2, d2, l2⟩ | ⟨e2, d2, l2⟩ <;> simp_all
    rcases h3 with ⟨e3, d3⟩ | ⟨e3, d3⟩ | ⟨e3, d3⟩ <;> simp_all <;> omega
end Go.Proofs.YtmhlnbihppojmaaGreat
namespace Go.Proofs.YtmhlnbihppojmaaGreat
open Go.RowKit
def eqS (a b : ByteArray) : Bool := a.toList == b.toList
theorem bless_tri : ∀ a b : List UInt8, Op.bytesLess a b = false → Op.bytesLess b a = false → a = b
  | [], [], _, _ => rfl
  | [], _ :: _, h, _ => by simp [Op.bytesLess] at h
  | _ :: _, [], _, h => by simp [Op.bytesLess] at h
  | x :: a, y :: b, h1, h2 => by
    simp only [Op.bytesLess, Bool.or_eq_false_iff, Bool.and_eq_false_iff, decide_eq_false_iff_not, beq_eq_false_iff_ne] at h1 h2
    have hxy : x = y := UInt8.le_antisymm (UInt8.not_lt.1 h2.1) (UInt8.not_lt.1 h1.1)
    subst hxy
    rw [bless_tri a b (h1.2.resolve_left (by simp)) (h2.2.resolve_left (by simp))]
theorem bless_trans2 : ∀ a b c : List UInt8, Op.bytesLess a b = true → Op.bytesLess b c = true → Op.bytesLess a c = true
  | _, _, [], _, h => by cases ‹List UInt8› <;> simp [Op.bytesLess] at h
  | [], _, _ :: _, _, _ => by simp [Op.bytesLess]
  | _ :: _, [], _ :: _, h, _ => by simp [Op.bytesLess] at h
  | x :: a, y :: b, z :: c, h1, h2 => by
    simp only [Op.bytesLess, Bool.or_eq_true, Bool.and_eq_true, decide_eq_true_eq, beq_iff_eq] at h1 h2 ⊢
    rcases h1 with h1 | ⟨rfl, h1⟩
    · rcases h2 with h2 | ⟨rfl, h2⟩
      · exact .inl (UInt8.lt_trans h1 h2)
      · exact .inl h1
    · rcases h2 with h2 | ⟨rfl, h2⟩
      · exact .inl h2
      · exact .inr ⟨rfl, bless_trans2 a b c h1 h2⟩
theorem bless_self : ∀ a : List UInt8, Op.bytesLess a a = false
  | [] => rfl
  | x :: a => by unfold Op.bytesLess; simp [UInt8.lt_irrefl, bless_self a]
theorem toList_inj {a b : ByteArray} (h : a.toList = b.toList) : a = b := by
  rw [ByteArray.toList_eq, ByteArray.toList_eq] at h
  cases a; cases b
  simp at h
  rw [h]
theorem tot_S : Tot lessS eqS :=
  ⟨fun a => bless_self _, fun _ _ _ h1 h2 => bless_trans2 _ _ _ h1 h2, fun _ _ h1 h2 => toList_inj (bless_tri _ _ h1 h2), fun a b => by
    unfold eqS
    rw [beq_iff_eq]
    exact ⟨toList_inj, fun h => by rw [h]⟩⟩
theorem tot_I : Tot (fun a b : Int => decide (a < b)) (fun a b => a == b) :=
  ⟨fun a => by simp, fun a b c h1 h2 => by simp at h1 h2 ⊢; omega, fun a b h1 h2 => by simp at h1 h2; omega, fun a b => beq_iff_eq⟩
theorem tot_B : Tot (fun a b : Bool => b && !a) (fun a b => a == b) :=
  ⟨fun a => by cases a <;> rfl, fun a b c h1 h2 => by cases a <;> cases b <;> cases c <;> simp at h1 h2 ⊢, fun a b h1 h2 => by cases a <;> cases b <;> simp at h1 h2 ⊢, fun a b => beq_iff_eq⟩
theorem Tot.lex {D A B : Type} {ltA eqA : A → A → Bool} {ltB eqB : B → B → Bool} (hA : Tot ltA eqA) (hB : Tot ltB eqB) (f : D → A) (g : D → B) (inj : ∀ a b, f a = f b → g a = g b → a = b) :
    Tot (fun a b => if !(eqA (f a) (f b)) then ltA (f a) (f b) else ltB (g a) (g b)) (fun a b => eqA (f a) (f b) && eqB (g a) (g b)) := by
  have eqA_refl : ∀ a, eqA a a = true := fun a => (hA.eq a a).2 rfl
  have ne : ∀ {a b}, ltA a b = true → eqA a b = false := fun {a b} h => by
    rcases h1 : eqA a b with _ | _
    · rfl
    · have := (hA.eq a b).1 h1
      subst this
      rw [hA.irrefl] at h
      cases h
  refine ⟨fun a => by simp only [eqA_refl, Bool.not_true, Bool.false_eq_true, if_false]; exact hB.irrefl _, fun a b c h1 h2 => ?_, fun a b h1 h2 => ?_, fun a b => ?_⟩
  · rcases e1 : eqA (f a) (f b) with _ | _
    · rw [e1] at h1
      simp only [Bool.not_false, if_true] at h1
      rcases e2 : eqA (f b) (f c) with _ | _
      · rw [e2] at h2
        simp only [Bool.not_false, if_true] at h2
        have h3 := hA.trans _ _ _ h1 h2
        rw [ne h3]
        simpa using h3
      · have := (hA.eq _ _).1 e2
        rw [← this, e1]
        simpa using h1
    · have h4 := (hA.eq _ _).1 e1
      rw [e1] at h1
      simp only [Bool.not_true, Bool.false_eq_true, if_false] at h1
      rw [h4]
      rcases e2 : eqA (f b) (f c) with _ | _
      · rw [e2] at h2
        simpa using h2
      · rw [e2] at h2
        simp only [Bool.not_true, Bool.false_eq_true, if_false] at h2 ⊢
        exact hB.trans _ _ _ h1 h2
  · rcases e1 : eqA (f a) (f b) with _ | _
    · have e2 : eqA (f b) (f a) = false := by
        rcases h3 : eqA (f b) (f a) with _ | _
        · rfl
        · have := (hA.eq _ _).1 h3
          rw [this, eqA_refl] at e1
          cases e1
      rw [e1] at h1
      rw [e2] at h2
      simp only [Bool.not_false, if_true] at h1 h2
      have := hA.tri _ _ h1 h2
      rw [this, eqA_refl] at e1
      cases e1
    · have h4 := (hA.eq _ _).1 e1
      rw [e1] at h1
      rw [← h4, eqA_refl] at h2
      simp only [Bool.not_true, Bool.false_eq_true, if_false] at h1 h2
      exact inj a b h4 (hB.tri _ _ h1 h2)
  · rw [Bool.and_eq_true, hA.eq, hB.eq]
    exact ⟨fun h => inj a b h.1 h.2, fun h => by rw [h]; exact ⟨rfl, rfl⟩⟩
def eqTol (a b : Tolerance) : Bool := a.key.toList == b.key.toList && (a.equal == b.equal && (a.value.toList == b.value.toList && a.effect == b.effect))
theorem tot_Tol0 : Tot (fun a b : Tolerance => if !(a.key.toList == b.key.toList) then lessS a.key b.key else if !(a.equal == b.equal) then (b.equal && !a.equal) else if !(a.value.toList == b.value.toList) then lessS a.value b.value else decide (a.effect < b.effect)) eqTol :=
  Tot.lex (D := Tolerance) tot_S (Tot.lex (D := Bool × ByteArray × Int) tot_B (Tot.lex (D := ByteArray × Int) tot_S tot_I Prod.fst Prod.snd (fun _ _ h1 h2 => Prod.ext h1 h2)) Prod.fst Prod.snd (fun _ _ h1 h2 => Prod.ext h1 h2)) (fun a => a.key) (fun a => (a.equal, a.value, a.effect)) (fun a b h1 h2 => by cases a; cases b; simp at h1 h2; rw [h1, h2.1, h2.2.1, h2.2.2])
theorem tot_Tol : Tot lessTol eqTol := by
  have e : lessTol = fun a b : Tolerance => if !(a.key.toList == b.key.toList) then lessS a.key b.key else if !(a.equal == b.equal) then (b.equal && !a.equal) else if !(a.value.toList == b.value.toList) then lessS a.value b.value else decide (a.effect < b.effect) := by
    funext a b
    unfold lessTol
    rcases a.equal <;> rcases b.equal <;> simp
  rw [e]
  exact tot_Tol0
theorem lt_Tol : Go.Sort.SWO lessTol := swo_of tot_Tol
end Go.Proofs.YtmhlnbihppojmaaGreat
