/- Plain laws: a list put in order without doubles, by insertion or by sorting and dropping neighbours that are alike, is one list. No program in sight. No conditions. -/
import Derived.Test.YtmhlnbihppojmaaCmp
import Derived.Sort.Statements
namespace Go.Proofs.Ytmhlnbihppojmaa
open Go.RowKit

structure Tot {D : Type} (lt eq : D → D → Bool) : Prop where
  irrefl : ∀ a, lt a a = false
  trans : ∀ a b c, lt a b = true → lt b c = true → lt a c = true
  tri : ∀ a b, lt a b = false → lt b a = false → a = b
  eq : ∀ a b, eq a b = true ↔ a = b
/-- In strict order. -/
def Asc {D : Type} (lt : D → D → Bool) (l : List D) : Prop := l.Pairwise fun a b => lt a b = true
theorem Tot.asymm {D : Type} {lt eq : D → D → Bool} (h : Tot lt eq) {a b : D} (h1 : lt a b = true) : lt b a = false := by
  rcases h2 : lt b a with _ | _
  · rfl
  · have := h.trans a b a h1 h2
    rw [h.irrefl] at this
    cases this
/-- Two lists in strict order with the same members are the same list. -/
theorem Asc.unique {D : Type} {lt eq : D → D → Bool} (h : Tot lt eq) : ∀ {l m : List D}, Asc lt l → Asc lt m → (∀ x, x ∈ l ↔ x ∈ m) → l = m
  | [], [], _, _, _ => rfl
  | [], b :: m, _, _, he => by have := (he b).2 (by simp); cases this
  | a :: l, [], _, _, he => by have := (he a).1 (by simp); cases this
  | a :: l, b :: m, hl, hm, he => by
    unfold Asc at hl hm
    rw [List.pairwise_cons] at hl hm
    have hab : a = b := by
      have h1 := (he a).1 (by simp)
      have h2 := (he b).2 (by simp)
      rcases List.mem_cons.1 h1 with h1 | h1
      · exact h1
      · rcases List.mem_cons.1 h2 with h2 | h2
        · exact h2.symm
        · have h3 := hm.1 a h1
          have h4 := hl.1 b h2
          rw [h.asymm h3] at h4
          cases h4
    subst hab
    congr 1
    refine Asc.unique h hl.2 hm.2 (fun x => ⟨fun hx => ?_, fun hx => ?_⟩)
    · rcases List.mem_cons.1 ((he x).1 (List.mem_cons_of_mem _ hx)) with h1 | h1
      · subst h1
        have := hl.1 x hx
        rw [h.irrefl] at this
        cases this
      · exact h1
    · rcases List.mem_cons.1 ((he x).2 (List.mem_cons_of_mem _ hx)) with h1 | h1
      · subst h1
        have := hm.1 x hx
        rw [h.irrefl] at this
        cases this
      · exact h1
/-- The first place whose member is not less than x. -/
def placeB {D : Type} (lt : D → D → Bool) (l : List D) (x : D) : Nat := (l.takeWhile fun y => lt y x).length
theorem placeB_le {D : Type} (lt : D → D → Bool) (l : List D) (x : D) : placeB lt l x ≤ l.length := by
  unfold placeB
  induction l with
  | nil => simp
  | cons a l ih =>
    rw [List.takeWhile_cons]
    split
    · simpa using ih
    · simp
theorem placeB_lt {D : Type} (lt : D → D → Bool) (x : D) : ∀ (l : List D) (i : Nat) (d : D), i < placeB lt l x → l[i]? = some d → lt d x = true
  | [], i, d, _, h => by cases h
  | a :: l, i, d, hi, h => by
    unfold placeB at hi
    rw [List.takeWhile_cons] at hi
    split at hi
    · rename_i ha
      cases i with
      | zero => simp at h; subst h; exact ha
      | succ i => exact placeB_lt lt x l i d (by unfold placeB; simpa using hi) (by simpa using h)
    · simp at hi
theorem placeB_at {D : Type} (lt : D → D → Bool) (x : D) : ∀ (l : List D) (d : D), l[placeB lt l x]? = some d → lt d x = false
  | [], d, h => by simp at h
  | a :: l, d, h => by
    rcases ha : lt a x with _ | _
    · have : placeB lt (a :: l) x = 0 := by unfold placeB; rw [List.takeWhile_cons, ha]; rfl
      rw [this] at h
      simp at h
      subst h
      exact ha
    · have : placeB lt (a :: l) x = placeB lt l x + 1 := by unfold placeB; rw [List.takeWhile_cons, ha]; rfl
      rw [this] at h
      exact placeB_at lt x l d (by simpa using h)
/-- What place is: all below are less, the member there is not. -/
theorem placeB_is {D : Type} {lt : D → D → Bool} {x : D} : ∀ {l : List D} {k : Nat}, k ≤ l.length → (∀ i d, i < k → l[i]? = some d → lt d x = true) → (∀ d, l[k]? = some d → lt d x = false) → placeB lt l x = k
  | [], k, hk, _, _ => by simp at hk; subst hk; rfl
  | a :: l, 0, _, _, h => by unfold placeB; rw [List.takeWhile_cons, h a rfl]; rfl
  | a :: l, k + 1, hk, h1, h2 => by
    have ha := h1 0 a (by omega) rfl
    have ih := placeB_is (l := l) (k := k) (by simpa using hk) (fun i d hi hd => h1 (i + 1) d (by omega) (by simpa using hd)) (fun d hd => h2 d (by simpa using hd))
    unfold placeB at ih ⊢
    rw [List.takeWhile_cons, ha]
    simpa using ih
def insB {D : Type} (lt eq : D → D → Bool) (l : List D) (x : D) : List D :=
  match l[placeB lt l x]? with
  | none => l ++ [x]
  | some y => if eq y x then l else l.take (placeB lt l x) ++ [x] ++ l.drop (placeB lt l x)
def ordB {D : Type} (lt eq : D → D → Bool) (l : List D) : List D := l.foldl (insB lt eq) []
theorem insB_all {D : Type} {lt eq : D → D → Bool} (h : Tot lt eq) {l : List D} {x : D} (hl : Asc lt l) : Asc lt (insB lt eq l x) ∧ ∀ y, y ∈ insB lt eq l x ↔ y ∈ l ∨ y = x := by
  unfold insB
  rcases hy : l[placeB lt l x]? with _ | y
  · have hk : l.length ≤ placeB lt l x := by simpa using hy
    refine ⟨?_, fun y => by simp⟩
    unfold Asc
    rw [List.pairwise_append]
    refine ⟨hl, by simp, fun a ha b hb => ?_⟩
    simp at hb
    subst hb
    obtain ⟨i, hi⟩ := List.getElem?_of_mem ha
    exact placeB_lt lt b l i a (Nat.lt_of_lt_of_le (List.getElem?_eq_some_iff.1 hi).1 hk) hi
  · rcases he : eq y x with _ | _
    · simp only [he, Bool.false_eq_true, if_false]
      have hkl : placeB lt l x < l.length := (List.getElem?_eq_some_iff.1 hy).1
      have hyx : lt x y = true := by
        rcases h1 : lt x y with _ | _
        · have := h.tri x y h1 (placeB_at lt x l y hy)
          have := (h.eq y x).2 this.symm
          rw [he] at this
          cases this
        · rfl
      have hsplit : l.take (placeB lt l x) ++ l.drop (placeB lt l x) = l := List.take_append_drop _ _
      have hp : Asc lt (l.take (placeB lt l x) ++ l.drop (placeB lt l x)) := by rw [hsplit]; exact hl
      unfold Asc at hp ⊢
      rw [List.pairwise_append] at hp
      have hlow : ∀ a ∈ l.take (placeB lt l x), lt a x = true := by
        intro a ha
        obtain ⟨i, hi⟩ := List.getElem?_of_mem ha
        rw [List.getElem?_take] at hi
        split at hi
        · exact placeB_lt lt x l i a (by assumption) hi
        · cases hi
      have hhigh : ∀ b ∈ l.drop (placeB lt l x), lt x b = true := by
        intro b hb
        have hd : l.drop (placeB lt l x) = y :: l.drop (placeB lt l x + 1) := by
          rw [List.drop_eq_getElem_cons hkl]
          congr 1
          exact (List.getElem?_eq_some_iff.1 hy).2
        rw [hd] at hb
        rcases List.mem_cons.1 hb with rfl | hb
        · exact hyx
        · have h2 := hp.2.1
          rw [hd, List.pairwise_cons] at h2
          exact h.trans x y b hyx (h2.1 b hb)
      refine ⟨?_, fun z => ?_⟩
      · rw [List.append_assoc, List.pairwise_append]
        refine ⟨hp.1, ?_, ?_⟩
        · rw [List.singleton_append, List.pairwise_cons]
          exact ⟨hhigh, hp.2.1⟩
        · intro a ha b hb
          rw [List.singleton_append] at hb
          rcases List.mem_cons.1 hb with rfl | hb
          · exact hlow a ha
          · exact hp.2.2 a ha b hb
      · have e : z ∈ l ↔ z ∈ l.take (placeB lt l x) ++ l.drop (placeB lt l x) := by rw [hsplit]
        rw [e]
        simp only [List.mem_append, List.mem_singleton]
        constructor
        · rintro ((h1 | h1) | h1)
          · exact .inl (.inl h1)
          · exact .inr h1
          · exact .inl (.inr h1)
        · rintro ((h1 | h1) | h1)
          · exact .inl (.inl h1)
          · exact .inr h1
          · exact .inl (.inr h1)
    · simp only [he, if_true]
      have := (h.eq y x).1 he
      subst this
      refine ⟨hl, fun z => ⟨.inl, ?_⟩⟩
      rintro (h1 | rfl)
      · exact h1
      · exact List.mem_of_getElem? hy
theorem ordB_all {D : Type} {lt eq : D → D → Bool} (h : Tot lt eq) (l : List D) : Asc lt (ordB lt eq l) ∧ ∀ y, y ∈ ordB lt eq l ↔ y ∈ l := by
  have H : ∀ (l acc : List D), Asc lt acc → Asc lt (l.foldl (insB lt eq) acc) ∧ ∀ y, y ∈ l.foldl (insB lt eq) acc ↔ y ∈ acc ∨ y ∈ l := by
    intro l
    induction l with
    | nil => intro acc ha; exact ⟨ha, fun y => by simp⟩
    | cons x l ih =>
      intro acc ha
      obtain ⟨h1, h2⟩ := insB_all h (x := x) ha
      obtain ⟨h3, h4⟩ := ih _ h1
      refine ⟨h3, fun y => ?_⟩
      show y ∈ l.foldl (insB lt eq) (insB lt eq acc x) ↔ _
      rw [h4, h2, List.mem_cons]
      constructor
      · rintro ((h1 | h1) | h1)
        · exact .inl h1
        · exact .inr (.inl h1)
        · exact .inr (.inr h1)
      · rintro (h1 | h1 | h1)
        · exact .inl (.inl h1)
        · exact .inl (.inr h1)
        · exact .inr h1
  have := H l [] List.Pairwise.nil
  exact ⟨this.1, fun y => by rw [show ordB lt eq l = l.foldl (insB lt eq) [] from rfl, this.2]; simp⟩
/-- Neighbours that are alike are dropped. -/
def compB {D : Type} (eq : D → D → Bool) : List D → List D
  | [] => []
  | [a] => [a]
  | a :: b :: l => if eq b a then compB eq (b :: l) else a :: compB eq (b :: l)
theorem compB_head {D : Type} {eq : D → D → Bool} (he : ∀ a b, eq a b = true ↔ a = b) : ∀ (l : List D) (a : D), ∃ r, compB eq (a :: l) = a :: r
  | [], a => ⟨[], rfl⟩
  | b :: l, a => by
    unfold compB
    split
    · rename_i h
      have := (he b a).1 h
      subst this
      exact compB_head he l b
    · exact ⟨_, rfl⟩
theorem compB_all {D : Type} {lt eq : D → D → Bool} (h : Tot lt eq) : ∀ (l : List D), l.Pairwise (fun a b => lt b a = false) → Asc lt (compB eq l) ∧ ∀ y, y ∈ compB eq l ↔ y ∈ l
  | [], _ => ⟨List.Pairwise.nil, fun y => Iff.rfl⟩
  | [a], _ => ⟨List.pairwise_singleton _ _, fun y => Iff.rfl⟩
  | a :: b :: l, hp => by
    rw [List.pairwise_cons] at hp
    obtain ⟨h1, h2⟩ := compB_all h (b :: l) hp.2
    unfold compB
    split
    · rename_i he
      have := (h.eq b a).1 he
      subst this
      exact ⟨h1, fun y => by rw [h2]; simp⟩
    · rename_i he
      refine ⟨?_, fun y => by rw [List.mem_cons, h2, ← List.mem_cons]⟩
      unfold Asc
      rw [List.pairwise_cons]
      refine ⟨fun y hy => ?_, h1⟩
      have hab : lt a b = true := by
        rcases h3 : lt a b with _ | _
        · have := h.tri a b h3 (hp.1 b (by simp))
          exact absurd ((h.eq b a).2 this.symm) he
        · rfl
      have hy2 := (h2 y).1 hy
      rcases List.mem_cons.1 hy2 with rfl | hy2
      · exact hab
      · have h3 := List.pairwise_cons.1 hp.2
        have h4 := h3.1 y hy2
        rcases h5 : lt b y with _ | _
        · have := h.tri b y h5 h4
          subst this
          exact hab
        · exact h.trans a b y hab h5
/-- Sorted and without doubles: what the insertion makes. -/
theorem comp_is_ord {D : Type} {lt eq : D → D → Bool} (h : Tot lt eq) {l m : List D} (hp : m.Pairwise (fun a b => lt b a = false)) (hm : ∀ x, x ∈ m ↔ x ∈ l) : compB eq m = ordB lt eq l := by
  obtain ⟨h1, h2⟩ := compB_all h m hp
  obtain ⟨h3, h4⟩ := ordB_all h l
  exact Asc.unique h h1 h3 (fun x => by rw [h2, h4, hm])
theorem swo_of {D : Type} {lt eq : D → D → Bool} (h : Tot lt eq) : Go.Sort.SWO lt :=
  ⟨h.irrefl, h.trans, fun x y z h1 h2 => by
    rcases h3 : lt x z with _ | _
    · rfl
    · rcases h4 : lt y x with _ | _
      · have := h.tri x y h1 h4
        subst this
        rw [h3] at h2
        cases h2
      · have := h.trans y x z h4 h3
        rw [h2] at this
        cases this⟩
theorem insB_len {D : Type} (lt eq : D → D → Bool) (l : List D) (x : D) : (insB lt eq l x).length ≤ l.length + 1 := by
  unfold insB
  split
  · simp
  · split
    · omega
    · simp; omega
end Go.Proofs.Ytmhlnbihppojmaa
