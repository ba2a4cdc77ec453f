/- Plain laws: a row of labels in order by keys that are all different is one; the reference's stable order is in order. No program in sight. No conditions. -/
import Derived.Test.YtmhlnbihppojmaaStabF
namespace Go.Proofs.Ytmhlnbihppojmaa
open Go.RowKit

def WkL (l : List Label) : Prop := l.Pairwise (fun x y => lessS y.key x.key = false)
def StL (l : List Label) : Prop := l.Pairwise (fun x y => lessS x.key y.key = true)
theorem lessS_ntrans {a b c : ByteArray} (h1 : lessS a b = false) (h2 : lessS b c = false) : lessS a c = false := (swo_of tot_S).ntrans a b c h1 h2
theorem strict_of_chain {l : List Label} (h : labelsB l = true) : StL l := by
  rw [labelsB_def, Bool.and_eq_true] at h
  have hc := h.2
  unfold chainB at hc
  rw [List.all_eq_true] at hc
  have step : ∀ k x y, l[k]? = some x → l[k + 1]? = some y → lessS x.key y.key = true := fun k x y hx hy => by
    have hk : k + 1 < l.length := (List.getElem?_eq_some_iff.1 hy).1
    have := hc (k + 1) (List.mem_range.2 hk)
    unfold stepB at this
    simp only [hy, hx] at this
    simp at this
    exact this.2
  have far : ∀ n k x y, l[k]? = some x → l[k + 1 + n]? = some y → lessS x.key y.key = true := by
    intro n
    induction n with
    | zero => intro k x y hx hy; exact step k x y hx hy
    | succ n ih =>
      intro k x y hx hy
      obtain ⟨z, hz⟩ := exists_at (l := l) (k := k + 1 + n) (by have := (List.getElem?_eq_some_iff.1 hy).1; omega)
      exact tot_S.trans _ _ _ (ih k x z hx hz) (step (k + 1 + n) z y hz hy)
  unfold StL
  rw [List.pairwise_iff_getElem]
  intro i j hi hj hij
  have := far (j - i - 1) i l[i] l[j] (List.getElem?_eq_getElem hi) (by rw [show i + 1 + (j - i - 1) = j by omega]; exact List.getElem?_eq_getElem hj)
  exact this
theorem weak_of_strict {l : List Label} (h : StL l) : WkL l := h.imp (fun hab => tot_S.asymm hab)
theorem insL_perm (l : List Label) (x : Label) : (insL l x).Perm (x :: l) := by
  unfold insL
  rw [List.append_assoc]
  refine List.perm_middle.trans ?_
  show (x :: (l.take (placeB leL l x) ++ l.drop (placeB leL l x))).Perm (x :: l)
  rw [List.take_append_drop]
theorem insL_weak {l : List Label} (h : WkL l) (x : Label) : WkL (insL l x) := by
  unfold insL WkL
  have hle := placeB_le leL l x
  rw [List.append_assoc, List.pairwise_append]
  refine ⟨List.Pairwise.sublist (List.take_sublist _ _) h, ?_, ?_⟩
  · rw [List.singleton_append, List.pairwise_cons]
    refine ⟨fun y hy => ?_, List.Pairwise.sublist (List.drop_sublist _ _) h⟩
    obtain ⟨i, hi⟩ := List.getElem?_of_mem hy
    rw [List.getElem?_drop] at hi
    obtain ⟨z, hz⟩ := exists_at (l := l) (k := placeB leL l x) (by have := (List.getElem?_eq_some_iff.1 hi).1; omega)
    have hz2 := placeB_at leL x l z hz
    unfold leL at hz2
    have hxz : lessS x.key z.key = true := by simpa using hz2
    by_cases e : i = 0
    · subst e
      rw [Nat.add_zero, hz] at hi
      obtain rfl := Option.some.inj hi
      exact tot_S.asymm hxz
    · have hzy : lessS y.key z.key = false := by
        unfold WkL at h
        rw [List.pairwise_iff_getElem] at h
        obtain ⟨h1, rfl⟩ := List.getElem?_eq_some_iff.1 hz
        obtain ⟨h2, rfl⟩ := List.getElem?_eq_some_iff.1 hi
        exact h _ _ h1 h2 (by omega)
      exact lessS_ntrans hzy (tot_S.asymm hxz)
  · intro y hy z hz
    obtain ⟨i, hi⟩ := List.getElem?_of_mem hy
    rw [List.getElem?_take] at hi
    split at hi
    · rename_i hlt
      have h1 := placeB_lt leL x l i y hlt hi
      unfold leL at h1
      have hxy : lessS x.key y.key = false := by simpa using h1
      rw [List.singleton_append] at hz
      rcases List.mem_cons.1 hz with rfl | hz
      · exact hxy
      · obtain ⟨j, hj⟩ := List.getElem?_of_mem hz
        rw [List.getElem?_drop] at hj
        unfold WkL at h
        rw [List.pairwise_iff_getElem] at h
        obtain ⟨g1, rfl⟩ := List.getElem?_eq_some_iff.1 hi
        obtain ⟨g2, rfl⟩ := List.getElem?_eq_some_iff.1 hj
        exact h _ _ g1 g2 (by omega)
    · cases hi
theorem stL_order (l : List Label) : WkL (stL l) ∧ (stL l).Perm l := by
  have H : ∀ (l acc : List Label), WkL acc → WkL (l.foldl insL acc) ∧ (l.foldl insL acc).Perm (acc ++ l) := by
    intro l
    induction l with
    | nil => intro acc h; exact ⟨h, by rw [List.append_nil]; exact List.Perm.refl _⟩
    | cons x l ih =>
      intro acc h
      obtain ⟨h1, h2⟩ := ih (insL acc x) (insL_weak h x)
      refine ⟨h1, h2.trans ?_⟩
      exact ((insL_perm acc x).append_right l).trans List.perm_middle.symm
  have := H l [] List.Pairwise.nil
  exact ⟨this.1, by simpa [stL] using this.2⟩
theorem order_one {A B : List Label} (hA : WkL A) (hB : StL B) (hp : A.Perm B) : A = B := by
  refine List.Perm.eq_of_pairwise (le := fun x y => lessS y.key x.key = false) (fun a b ha hb h1 h2 => ?_) (show A.Pairwise (fun x y => lessS y.key x.key = false) from hA) (show B.Pairwise (fun x y => lessS y.key x.key = false) from weak_of_strict hB) hp
  have hk : a.key = b.key := tot_S.tri _ _ h2 h1
  have ha2 := hp.mem_iff.1 ha
  obtain ⟨i, hi⟩ := List.getElem?_of_mem ha2
  obtain ⟨j, hj⟩ := List.getElem?_of_mem hb
  unfold StL at hB
  rw [List.pairwise_iff_getElem] at hB
  obtain ⟨hi1, hi2⟩ := List.getElem?_eq_some_iff.1 hi
  obtain ⟨hj1, hj2⟩ := List.getElem?_eq_some_iff.1 hj
  rcases Nat.lt_trichotomy i j with hlt | heq | hgt
  · have := hB i j hi1 hj1 hlt
    rw [hi2, hj2, hk, tot_S.irrefl] at this
    cases this
  · subst heq
    rw [hi] at hj
    exact Option.some.inj hj
  · have := hB j i hj1 hi1 hgt
    rw [hi2, hj2, hk, tot_S.irrefl] at this
    cases this
/-- Whatever order the library makes: the answer is the reference's. -/
theorem sortL_same {l l' : List Label} (h : OrdK l.length l' l) : (if labelsB l' then (l', true) else (l, false)) = sortLB l := by
  obtain ⟨⟨h1, h2⟩, h3⟩ := h
  unfold sortLB
  by_cases h6 : 6 < l.length
  · rw [if_pos h6, labelsB_long (by rw [h1]; omega)]
    rfl
  · rw [if_neg h6]
    obtain ⟨hp, hw⟩ := h3 (by omega)
    obtain ⟨sw, sp⟩ := stL_order l
    rcases hb : labelsB l' with _ | _
    · rcases hs : labelsB (stL l) with _ | _
      · rfl
      · have := order_one hw (strict_of_chain hs) (hp.trans sp.symm)
        rw [this, hs] at hb
        cases hb
    · have := order_one sw (strict_of_chain hb) (sp.trans hp.symm)
      rw [this, hb]
end Go.Proofs.Ytmhlnbihppojmaa
