/- Plain laws: the order of requirements is total; leaving out what equals its forerunner. No program in sight. No conditions. -/
import Derived.Test.YtmhlnbihppojmaaTot
import Derived.Test.YtmhlnbihppojmaaSel
import Derived.Test.YtmhlnbihppojmaaSortN
namespace Go.Proofs.Ytmhlnbihppojmaa
open Go.RowKit

def lessL (l m : List ByteArray) : Bool := decide (cmpL l m < 0)
theorem lessL_cons (x y : ByteArray) (l m : List ByteArray) : lessL (x :: l) (y :: m) = if x = y then lessL l m else lessS x y := by
  unfold lessL
  rw [cmpL]
  rcases cmpS_cases x y with ⟨e, d⟩ | ⟨e, d, h⟩ | ⟨e, d, h⟩
  · rw [e, if_pos d]; rfl
  · rw [e, if_neg d, h]; rfl
  · rw [e, if_neg d, h]; rfl
theorem cmpL_self : ∀ l : List ByteArray, cmpL l l = 0
  | [] => rfl
  | x :: l => by
    rw [cmpL]
    rcases cmpS_cases x x with ⟨e, d⟩ | ⟨e, d, h⟩ | ⟨e, d, h⟩
    · rw [e]; exact cmpL_self l
    · exact absurd rfl d
    · exact absurd rfl d
theorem cmpL_zero : ∀ l m : List ByteArray, cmpL l m = 0 → l = m
  | [], [], _ => rfl
  | [], _ :: _, h => by simp [cmpL] at h
  | _ :: _, [], h => by simp [cmpL] at h
  | x :: l, y :: m, h => by
    rw [cmpL] at h
    rcases cmpS_cases x y with ⟨e, d⟩ | ⟨e, d, h2⟩ | ⟨e, d, h2⟩
    · rw [e] at h; rw [d, cmpL_zero l m h]
    · rw [e] at h; simp at h
    · rw [e] at h; simp at h
theorem lessL_irrefl (l : List ByteArray) : lessL l l = false := by unfold lessL; rw [cmpL_self]; rfl
theorem lessL_trans : ∀ a b c : List ByteArray, lessL a b = true → lessL b c = true → lessL a c = true
  | [], [], _, h, _ => by simp [lessL, cmpL] at h
  | [], _ :: _, [], _, h => by simp [lessL, cmpL] at h
  | [], _ :: _, _ :: _, _, _ => by simp [lessL, cmpL]
  | _ :: _, [], _, h, _ => by simp [lessL, cmpL] at h
  | _ :: _, _ :: _, [], _, h => by simp [lessL, cmpL] at h
  | x :: a, y :: b, z :: c, h1, h2 => by
    rw [lessL_cons] at h1 h2 ⊢
    by_cases e1 : x = y
    · subst e1
      rw [if_pos rfl] at h1
      by_cases e2 : x = z
      · subst e2
        rw [if_pos rfl] at h2 ⊢
        exact lessL_trans a b c h1 h2
      · rw [if_neg e2] at h2 ⊢
        exact h2
    · rw [if_neg e1] at h1
      by_cases e2 : y = z
      · subst e2
        rw [if_neg e1]
        exact h1
      · rw [if_neg e2] at h2
        have h3 := tot_S.trans _ _ _ h1 h2
        rw [if_neg (fun e => by subst e; rw [tot_S.irrefl] at h3; cases h3)]
        exact h3
theorem lessL_tri : ∀ a b : List ByteArray, lessL a b = false → lessL b a = false → a = b
  | [], [], _, _ => rfl
  | [], _ :: _, h, _ => by simp [lessL, cmpL] at h
  | _ :: _, [], _, h => by simp [lessL, cmpL] at h
  | x :: a, y :: b, h1, h2 => by
    rw [lessL_cons] at h1 h2
    by_cases e : x = y
    · subst e
      rw [if_pos rfl] at h1 h2
      rw [lessL_tri a b h1 h2]
    · rw [if_neg e] at h1
      rw [if_neg (fun h => e h.symm)] at h2
      exact absurd (tot_S.tri _ _ h1 h2) e
theorem tot_L : Tot lessL (fun a b => decide (a = b)) := ⟨lessL_irrefl, lessL_trans, lessL_tri, fun _ _ => decide_eq_true_iff⟩
theorem lessN_lex : lessN = fun a b : Need => if !(eqS a.key b.key) then lessS a.key b.key else if !(a.op == b.op) then decide (a.op < b.op) else lessL a.values b.values := by
  funext a b
  rcases h1 : eqS a.key b.key with _ | _
  · simp only [Bool.not_false, if_true]
    exact lessN_key a b h1
  · simp only [Bool.not_true, Bool.false_eq_true, if_false]
    rcases h2 : (a.op == b.op) with _ | _
    · simp only [Bool.not_false, if_true]
      exact lessN_op a b h1 (beq_eq_false_iff_ne.1 h2)
    · simp only [Bool.not_true, Bool.false_eq_true, if_false]
      exact lessN_values a b h1 (beq_iff_eq.1 h2)
theorem tot_N0 : Tot lessN (fun a b : Need => eqS a.key b.key && ((a.op == b.op) && decide (a.values = b.values))) := by
  rw [lessN_lex]
  exact Tot.lex (D := Need) tot_S (Tot.lex (D := Int × List ByteArray) tot_I tot_L Prod.fst Prod.snd (fun _ _ h1 h2 => Prod.ext h1 h2)) (fun a => a.key) (fun a => (a.op, a.values)) (fun a b h1 h2 => by cases a; cases b; simp at h1 h2; rw [h1, h2.1, h2.2])
theorem tot_N : Tot lessN eqN := by
  have h := tot_N0
  refine ⟨h.irrefl, h.trans, h.tri, fun a b => ?_⟩
  unfold eqN
  rw [Bool.and_eq_true, Bool.not_eq_true', Bool.not_eq_true']
  exact ⟨fun k => h.tri a b k.1 k.2, fun k => by subst k; exact ⟨h.irrefl a, h.irrefl a⟩⟩
theorem lt_N : Go.Sort.SWO lessN := swo_of tot_N
theorem cmpN_zero (a b : Need) : (cmpN a b == 0) = eqN a b := by
  rcases h : eqN a b with _ | _
  · rcases h0 : cmpN a b == 0 with _ | _
    · rfl
    · exfalso
      rw [beq_iff_eq] at h0
      have hab : lessN a b = false := by unfold lessN; rw [h0]; rfl
      have hk : cmpS a.key b.key = 0 := by
        unfold cmpN orI at h0
        rcases hz : cmpS a.key b.key == 0 with _ | _
        · rw [hz] at h0; simp at h0; exact h0
        · exact beq_iff_eq.1 hz
      have hk2 : (a.key.toList == b.key.toList) = true := by rw [← cmpS_eq0, hk]; rfl
      have ho : cmpI a.op b.op = 0 := by
        unfold cmpN orI orI at h0
        rw [hk] at h0
        rcases hz : cmpI a.op b.op == 0 with _ | _
        · rw [hz] at h0; simp at h0; exact h0
        · exact beq_iff_eq.1 hz
      have ho2 : a.op = b.op := by
        rcases cmpI_cases a.op b.op with ⟨e, d⟩ | ⟨e, d⟩ | ⟨e, d⟩
        · exact d
        · rw [e] at ho; simp at ho
        · rw [e] at ho; simp at ho
      have hl : cmpL a.values b.values = 0 := by
        unfold cmpN orI orI orI at h0
        rw [hk, ho] at h0
        rcases hz : cmpL a.values b.values == 0 with _ | _
        · rw [hz] at h0; simp at h0; exact h0
        · exact beq_iff_eq.1 hz
      have : a = b := by
        cases a; cases b
        simp only at hk2 ho2 hl
        rw [toList_inj (beq_iff_eq.1 hk2), ho2, cmpL_zero _ _ hl]
      rw [(tot_N.eq a b).2 this] at h
      cases h
  · have := (tot_N.eq a b).1 h
    subst this
    rw [beq_iff_eq]
    unfold cmpN orI orI orI
    have e1 : cmpS a.key a.key = 0 := by
      rcases cmpS_cases a.key a.key with ⟨e, d⟩ | ⟨e, d, l⟩ | ⟨e, d, l⟩
      · exact e
      · exact absurd rfl d
      · exact absurd rfl d
    have e2 : cmpI a.op a.op = 0 := by unfold cmpI; simp
    rw [e1, e2, cmpL_self]
    rfl

/-- What equals its forerunner is left out. -/
def goF {D : Type} (eq : D → D → Bool) : D → List D → List D
  | _, [] => []
  | a, b :: l => if eq b a then goF eq b l else b :: goF eq b l
def compF {D : Type} (eq : D → D → Bool) : List D → List D
  | [] => []
  | a :: l => a :: goF eq a l
theorem goF_snoc {D : Type} (eq : D → D → Bool) (a x : D) : ∀ (l : List D) (p : D), goF eq p (l ++ [a, x]) = goF eq p (l ++ [a]) ++ if eq x a then [] else [x]
  | [], p => by
    simp only [List.nil_append, goF]
    split <;> split <;> simp
  | b :: l, p => by
    simp only [List.cons_append, goF]
    split <;> simp [goF_snoc eq a x l b]
theorem compF_snoc {D : Type} (eq : D → D → Bool) (a x : D) (l : List D) : compF eq (l ++ [a, x]) = compF eq (l ++ [a]) ++ if eq x a then [] else [x] := by
  match l with
  | [] => simp only [List.nil_append, compF, goF]; split <;> simp
  | b :: l => simp only [List.cons_append, compF, goF_snoc]
theorem goF_sub {D : Type} (eq : D → D → Bool) : ∀ (l : List D) (p : D), (goF eq p l).Sublist l
  | [], p => List.Sublist.refl _
  | b :: l, p => by
    rw [goF]
    split
    · exact (goF_sub eq l b).cons _
    · exact (goF_sub eq l b).cons_cons _
theorem compF_sub {D : Type} (eq : D → D → Bool) (l : List D) : (compF eq l).Sublist l := by
  match l with
  | [] => exact List.Sublist.refl _
  | a :: l => exact (goF_sub eq l a).cons_cons _
theorem goF_map {D E : Type} (eq : E → E → Bool) (f : D → E) : ∀ (l : List D) (p : D), (goF (fun x y => eq (f x) (f y)) p l).map f = goF eq (f p) (l.map f)
  | [], p => rfl
  | b :: l, p => by
    simp only [List.map_cons, goF]
    split <;> simp [goF_map eq f l b]
theorem compF_map {D E : Type} (eq : E → E → Bool) (f : D → E) (l : List D) : (compF (fun x y => eq (f x) (f y)) l).map f = compF eq (l.map f) := by
  match l with
  | [] => rfl
  | a :: l => simp only [List.map_cons, compF, goF_map]
theorem compB_compF {D : Type} {eq : D → D → Bool} (he : ∀ a b, eq a b = true ↔ a = b) : ∀ l : List D, compB eq l = compF eq l
  | [] => rfl
  | [a] => rfl
  | a :: b :: l => by
    have ih := compB_compF he (b :: l)
    rw [compB_two, ih]
    simp only [compF, goF]
    split
    · have := (he b a).1 (by assumption)
      rw [this]
    · rfl
structure CompG {D : Type} (eq : D → D → Bool) (l : List D) (m kk : Nat) (L : List D) : Prop where
  lt : kk < m
  size : L.length = l.length
  low : L.take kk = compF eq (l.take m)
  len : (compF eq (l.take m)).length = kk
  high : ∀ i, kk ≤ i → L[i]? = l[i]?
theorem take_two {D : Type} {l : List D} {m : Nat} {a x : D} (hm : 0 < m) (ha : l[m - 1]? = some a) (hx : l[m]? = some x) : l.take (m + 1) = l.take (m - 1) ++ [a, x] := by
  obtain ⟨m, rfl⟩ : ∃ n, m = n + 1 := ⟨m - 1, by omega⟩
  rw [List.take_add_one, hx, List.take_add_one]
  simp only [Nat.add_sub_cancel] at ha ⊢
  rw [ha]
  simp
theorem take_one {D : Type} {l : List D} {m : Nat} {a : D} (hm : 0 < m) (ha : l[m - 1]? = some a) : l.take m = l.take (m - 1) ++ [a] := by
  obtain ⟨m, rfl⟩ : ∃ n, m = n + 1 := ⟨m - 1, by omega⟩
  rw [List.take_add_one]
  simp only [Nat.add_sub_cancel] at ha ⊢
  rw [ha]
  rfl
theorem compF_take {D : Type} {eq : D → D → Bool} {l : List D} {m : Nat} {a x : D} (hm : 0 < m) (ha : l[m - 1]? = some a) (hx : l[m]? = some x) : compF eq (l.take (m + 1)) = compF eq (l.take m) ++ if eq x a then [] else [x] := by
  rw [take_two hm ha hx, take_one hm ha, compF_snoc]
theorem CompG.start {D : Type} {eq : D → D → Bool} {l : List D} {k : Nat} {a x : D} (hk : 0 < k) (ha : l[k - 1]? = some a) (hx : l[k]? = some x) (hall : compF eq (l.take k) = l.take k) (hd : eq x a = true) : CompG eq l (k + 1) k l := by
  have hkl : k < l.length := (List.getElem?_eq_some_iff.1 hx).1
  have h := compF_take (eq := eq) hk ha hx
  rw [hd] at h
  simp only [if_true, List.append_nil] at h
  rw [hall] at h
  exact ⟨by omega, rfl, h.symm, by rw [h, List.length_take]; omega, fun i _ => rfl⟩
theorem CompG.skip {D : Type} {eq : D → D → Bool} {l L : List D} {m kk : Nat} {a x : D} (h : CompG eq l m kk L) (ha : l[m - 1]? = some a) (hx : l[m]? = some x) (hd : eq x a = true) : CompG eq l (m + 1) kk L := by
  have h2 := compF_take (eq := eq) (Nat.lt_of_le_of_lt (Nat.zero_le _) h.lt) ha hx
  rw [hd] at h2
  simp only [if_true, List.append_nil] at h2
  exact ⟨by have := h.lt; omega, h.size, by rw [h2]; exact h.low, by rw [h2]; exact h.len, h.high⟩
theorem CompG.keep {D : Type} {eq : D → D → Bool} {l L : List D} {m kk : Nat} {a x : D} (h : CompG eq l m kk L) (ha : l[m - 1]? = some a) (hx : l[m]? = some x) (hd : eq x a = false) : CompG eq l (m + 1) (kk + 1) (L.set kk x) := by
  have h2 := compF_take (eq := eq) (Nat.lt_of_le_of_lt (Nat.zero_le _) h.lt) ha hx
  rw [hd] at h2
  simp only [Bool.false_eq_true, if_false] at h2
  have hml : m < l.length := (List.getElem?_eq_some_iff.1 hx).1
  have hkl : kk < L.length := by rw [h.size]; have := h.lt; omega
  refine ⟨by have := h.lt; omega, by rw [List.length_set, h.size], ?_, by rw [h2, List.length_append, h.len]; rfl, fun i hi => ?_⟩
  · rw [h2, ← h.low, List.take_add_one, List.getElem?_set_self hkl, List.take_set_of_le (Nat.le_refl _)]
    rfl
  · rw [List.getElem?_set_ne (by omega)]
    exact h.high i (by omega)
theorem compF_short {D : Type} (eq : D → D → Bool) {l : List D} (h : l.length < 2) : compF eq l = l := by
  match l, h with
  | [], _ => rfl
  | [a], _ => rfl
def FixF {D : Type} (eq : D → D → Bool) (l : List D) (k : Nat) : Prop := compF eq (l.take k) = l.take k
end Go.Proofs.Ytmhlnbihppojmaa
