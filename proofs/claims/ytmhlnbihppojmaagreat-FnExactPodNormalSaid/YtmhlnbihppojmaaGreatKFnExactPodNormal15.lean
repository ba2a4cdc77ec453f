/- Written by wip/tools/pack.py: the texts that FnExactPodNormal needs, without what it does not need. No conditions. -/
import Derived.Test.YtmhlnbihppojmaaGreatKFnExactPodNormal4
import Derived.Test.YtmhlnbihppojmaaGreatKFnExactPodNormal12
import Derived.Test.YtmhlnbihppojmaaGreatKFnExactPodNormal14
import Derived.Shelf.SortM.Plain
import Derived.Shelf.SortM.SortNone
import Derived.Shelf.SlGeneric
import Derived.Test.YtmhlnbihppojmaaGreatKFnExactPodNormal1
import Derived.Test.YtmhlnbihppojmaaGreatKFnExactPodNormal10
import Derived.Test.YtmhlnbihppojmaaGreatKFnExactPodNormal9
import Derived.Sort.OwnSorted
import Derived.Shelf.SlSortCmp.NoneTotal
import Derived.Test.YtmhlnbihppojmaaGreatKFnExactPodNormal3
namespace Go.Proofs.YtmhlnbihppojmaaGreat
open Go.RowKit
def lessVs (l m : List ByteArray) : Bool := decide (cmpL l m < 0)
theorem lessVs_cons (x y : ByteArray) (l m : List ByteArray) : lessVs (x :: l) (y :: m) = if x = y then lessVs l m else lessS x y := by
  unfold lessVs
  rw [cmpL]
  rcases cmpS_cases x y with ⟨e, d⟩ | ⟨e, d, h⟩ | ⟨e, d, h⟩
  · rw [e, if_pos d]; rfl
  · rw [e, if_neg d, h]; rfl
  · rw [e, if_neg d, h]; rfl
theorem cmpL_self : ∀ l : List ByteArray, cmpL l l = 0
  | [] => rfl
  | x :: l => by
    rw [cmpL]
    rcases cmpS_cases x x with ⟨e, d⟩ | ⟨e, d, h⟩ | ⟨e, d, h⟩
    · rw [e]; exact cmpL_self l
    · exact absurd rfl d
    · exact absurd rfl d
theorem cmpL_zero : ∀ l m : List ByteArray, cmpL l m = 0 → l = m
  | [], [], _ => rfl
  | [], _ :: _, h => by simp [cmpL] at h
  | _ :: _, [], h => by simp [cmpL] at h
  | x :: l, y :: m, h => by
    rw [cmpL] at h
    rcases cmpS_cases x y with ⟨e, d⟩ | ⟨e, d, h2⟩ | ⟨e, d, h2⟩
    · rw [e] at h; rw [d, cmpL_zero l m h]
    · rw [e] at h; simp at h
    · rw [e] at h; simp at h
theorem lessVs_irrefl (l : List ByteArray) : lessVs l l = false := by unfold lessVs; rw [cmpL_self]; rfl
theorem lessVs_trans : ∀ a b c : List ByteArray, lessVs a b = true → lessVs b c = true → lessVs a c = true
  | [], [], _, h, _ => by simp [lessVs, cmpL] at h
  | [], _ :: _, [], _, h => by simp [lessVs, cmpL] at h
  | [], _ :: _, _ :: _, _, _ => by simp [lessVs, cmpL]
  | _ :: _, [], _, h, _ => by simp [lessVs, cmpL] at h
  | _ :: _, _ :: _, [], _, h => by simp [lessVs, cmpL] at h
  | x :: a, y :: b, z :: c, h1, h2 => by
    rw [lessVs_cons] at h1 h2 ⊢
    by_cases e1 : x = y
    · subst e1
      rw [if_pos rfl] at h1
      by_cases e2 : x = z
      · subst e2
        rw [if_pos rfl] at h2 ⊢
        exact lessVs_trans a b c h1 h2
      · rw [if_neg e2] at h2 ⊢
        exact h2
    · rw [if_neg e1] at h1
      by_cases e2 : y = z
      · subst e2
        rw [if_neg e1]
        exact h1
      · rw [if_neg e2] at h2
        have h3 := tot_S.trans _ _ _ h1 h2
        rw [if_neg (fun e => by subst e; rw [tot_S.irrefl] at h3; cases h3)]
        exact h3
theorem lessVs_tri : ∀ a b : List ByteArray, lessVs a b = false → lessVs b a = false → a = b
  | [], [], _, _ => rfl
  | [], _ :: _, h, _ => by simp [lessVs, cmpL] at h
  | _ :: _, [], _, h => by simp [lessVs, cmpL] at h
  | x :: a, y :: b, h1, h2 => by
    rw [lessVs_cons] at h1 h2
    by_cases e : x = y
    · subst e
      rw [if_pos rfl] at h1 h2
      rw [lessVs_tri a b h1 h2]
    · rw [if_neg e] at h1
      rw [if_neg (fun h => e h.symm)] at h2
      exact absurd (tot_S.tri _ _ h1 h2) e
theorem tot_L : Tot lessVs (fun a b => decide (a = b)) := ⟨lessVs_irrefl, lessVs_trans, lessVs_tri, fun _ _ => decide_eq_true_iff⟩
theorem lessN_lex : lessN = fun a b : Need => if !(eqS a.key b.key) then lessS a.key b.key else if !(a.op == b.op) then decide (a.op < b.op) else lessVs a.values b.values := by
  funext a b
  rcases h1 : eqS a.key b.key with _ | _
  · simp only [Bool.not_false, if_true]
    exact lessN_key a b h1
  · simp only [Bool.not_true, Bool.false_eq_true, if_false]
    rcases h2 : (a.op == b.op) with _ | _
    · simp only [Bool.not_false, if_true]
      exact lessN_op a b h1 (beq_eq_false_iff_ne.1 h2)
    · simp only [Bool.not_true, Bool.false_eq_true, if_false]
      exact lessN_values a b h1 (beq_iff_eq.1 h2)
theorem tot_N0 : Tot lessN (fun a b : Need => eqS a.key b.key && ((a.op == b.op) && decide (a.values = b.values))) := by
  rw [lessN_lex]
  exact Tot.lex (D := Need) tot_S (Tot.lex (D := Int × List ByteArray) tot_I tot_L Prod.fst Prod.snd (fun _ _ h1 h2 => Prod.ext h1 h2)) (fun a => a.key) (fun a => (a.op, a.values)) (fun a b h1 h2 => by cases a; cases b; simp at h1 h2; rw [h1, h2.1, h2.2])
theorem tot_N : Tot lessN eqN := by
  have h := tot_N0
  refine ⟨h.irrefl, h.trans, h.tri, fun a b => ?_⟩
  unfold eqN
  rw [Bool.and_eq_true, Bool.not_eq_true', Bool.not_eq_true']
  exact ⟨fun k => h.tri a b k.1 k.2, fun k => by subst k; exact ⟨h.irrefl a, h.irrefl a⟩⟩
theorem lt_N : Go.Sort.SWO lessN := swo_of tot_N
theorem cmpN_zero (a b : Need) : (cmpN a b == 0) = eqN a b := by
  rcases h : eqN a b with _ | _
  · rcases h0 : cmpN a b == 0 with _ | _
    · rfl
    · exfalso
      rw [beq_iff_eq] at h0
      have hab : lessN a b = false := by unfold lessN; rw [h0]; rfl
      have hk : cmpS a.key b.key = 0 := by
        unfold cmpN orI at h0
        rcases hz : cmpS a.key b.key == 0 with _ | _
        · rw [hz] at h0; simp at h0; exact h0
        · exact beq_iff_eq.1 hz
      have hk2 : (a.key.toList == b.key.toList) = true := by rw [← cmpS_eq0, hk]; rfl
      have ho : cmpI a.op b.op = 0 := by
        unfold cmpN orI orI at h0
        rw [hk] at h0
        rcases hz : cmpI a.op b.op == 0 with _ | _
        · rw [hz] at h0; simp at h0; exact h0
        · exact beq_iff_eq.1 hz
      have ho2 : a.op = b.op := by
        rcases cmpI_cases a.op b.op with ⟨e, d⟩ | ⟨e, d⟩ | ⟨e, d⟩
        · exact d
        · rw [e] at ho; simp at ho
        · rw [e] at ho; simp at ho
      have hl : cmpL a.values b.values = 0 := by
        unfold cmpN orI orI orI at h0
        rw [hk, ho] at h0
        rcases hz : cmpL a.values b.values == 0 with _ | _
        · rw [hz] at h0; simp at h0; exact h0
        · exact beq_iff_eq.1 hz
      have : a = b := by
        cases a; cases b
        simp only at hk2 ho2 hl
        rw [toList_inj (beq_iff_eq.1 hk2), ho2, cmpL_zero _ _ hl]
      rw [(tot_N.eq a b).2 this] at h
      cases h
  · have := (tot_N.eq a b).1 h
    subst this
    rw [beq_iff_eq]
    unfold cmpN orI orI orI
    have e1 : cmpS a.key a.key = 0 := by
      rcases cmpS_cases a.key a.key with ⟨e, d⟩ | ⟨e, d, l⟩ | ⟨e, d, l⟩
      · exact e
      · exact absurd rfl d
      · exact absurd rfl d
    have e2 : cmpI a.op a.op = 0 := by unfold cmpI; simp
    rw [e1, e2, cmpL_self]
    rfl
/-- What equals its forerunner is left out. -/
def goF {D : Type} (eq : D → D → Bool) : D → List D → List D
  | _, [] => []
  | a, b :: l => if eq b a then goF eq b l else b :: goF eq b l
def compF {D : Type} (eq : D → D → Bool) : List D → List D
  | [] => []
  | a :: l => a :: goF eq a l
theorem goF_snoc {D : Type} (eq : D → D → Bool) (a x : D) : ∀ (l : List D) (p : D), goF eq p (l ++ [a, x]) = goF eq p (l ++ [a]) ++ if eq x a then [] else [x]
  | [], p => by
    simp only [List.nil_append, goF]
    split <;> split <;> simp
  | b :: l, p => by
    simp only [List.cons_append, goF]
    split <;> simp [goF_snoc eq a x l b]
theorem compF_snoc {D : Type} (eq : D → D → Bool) (a x : D) (l : List D) : compF eq (l ++ [a, x]) = compF eq (l ++ [a]) ++ if eq x a then [] else [x] := by
  match l with
  | [] => simp only [List.nil_append, compF, goF]; split <;> simp
  | b :: l => simp only [List.cons_append, compF, goF_snoc]
theorem goF_sub {D : Type} (eq : D → D → Bool) : ∀ (l : List D) (p : D), (goF eq p l).Sublist l
  | [], p => List.Sublist.refl _
  | b :: l, p => by
    rw [goF]
    split
    · exact (goF_sub eq l b).cons _
    · exact (goF_sub eq l b).cons_cons _
theorem compF_sub {D : Type} (eq : D → D → Bool) (l : List D) : (compF eq l).Sublist l := by
  match l with
  | [] => exact List.Sublist.refl _
  | a :: l => exact (goF_sub eq l a).cons_cons _
theorem goF_map {D E : Type} (eq : E → E → Bool) (f : D → E) : ∀ (l : List D) (p : D), (goF (fun x y => eq (f x) (f y)) p l).map f = goF eq (f p) (l.map f)
  | [], p => rfl
  | b :: l, p => by
    simp only [List.map_cons, goF]
    split <;> simp [goF_map eq f l b]
theorem compF_map {D E : Type} (eq : E → E → Bool) (f : D → E) (l : List D) : (compF (fun x y => eq (f x) (f y)) l).map f = compF eq (l.map f) := by
  match l with
  | [] => rfl
  | a :: l => simp only [List.map_cons, compF, goF_map]
theorem compB_compF {D : Type} {eq : D → D → Bool} (he : ∀ a b, eq a b = true ↔ a = b) : ∀ l : List D, compB eq l = compF eq l
  | [] => rfl
  | [a] => rfl
  | a :: b :: l => by
    have ih := compB_compF he (b :: l)
    rw [compB_two, ih]
    simp only [compF, goF]
    split
    · have := (he b a).1 (by assumption)
      rw [this]
    · rfl
structure CompG {D : Type} (eq : D → D → Bool) (l : List D) (m kk : Nat) (L : List D) : Prop where
  lt : kk < m
  size : L.length = l.length
  low : L.take kk = compF eq (l.take m)
  len : (compF eq (l.take m)).length = kk
  high : ∀ i, kk ≤ i → L[i]? = l[i]?
theorem take_two {D : Type} {l : List D} {m : Nat} {a x : D} (hm : 0 < m) (ha : l[m - 1]? = some a) (hx : l[m]? = some x) : l.take (m + 1) = l.take (m - 1) ++ [a, x] := by
  obtain ⟨m, rfl⟩ : ∃ n, m = n + 1 := ⟨m - 1, by omega⟩
  rw [List.take_add_one, hx, List.take_add_one]
  simp only [Nat.add_sub_cancel] at ha ⊢
  rw [ha]
  simp
theorem take_one {D : Type} {l : List D} {m : Nat} {a : D} (hm : 0 < m) (ha : l[m - 1]? = some a) : l.take m = l.take (m - 1) ++ [a] := by
  obtain ⟨m, rfl⟩ : ∃ n, m = n + 1 := ⟨m - 1, by omega⟩
  rw [List.take_add_one]
  simp only [Nat.add_sub_cancel] at ha ⊢
  rw [ha]
  rfl
theorem compF_take {D : Type} {eq : D → D → Bool} {l : List D} {m : Nat} {a x : D} (hm : 0 < m) (ha : l[m - 1]? = some a) (hx : l[m]? = some x) : compF eq (l.take (m + 1)) = compF eq (l.take m) ++ if eq x a then [] else [x] := by
  rw [take_two hm ha hx, take_one hm ha, compF_snoc]
theorem CompG.start {D : Type} {eq : D → D → Bool} {l : List D} {k : Nat} {a x : D} (hk : 0 < k) (ha : l[k - 1]? = some a) (hx : l[k]? = some x) (hall : compF eq (l.take k) = l.take k) (hd : eq x a = true) : CompG eq l (k + 1) k l := by
  have hkl : k < l.length := (List.getElem?_eq_some_iff.1 hx).1
  have h := compF_take (eq := eq) hk ha hx
  rw [hd] at h
  simp only [if_true, List.append_nil] at h
  rw [hall] at h
  exact ⟨by omega, rfl, h.symm, by rw [h, List.length_take]; omega, fun i _ => rfl⟩
theorem CompG.skip {D : Type} {eq : D → D → Bool} {l L : List D} {m kk : Nat} {a x : D} (h : CompG eq l m kk L) (ha : l[m - 1]? = some a) (hx : l[m]? = some x) (hd : eq x a = true) : CompG eq l (m + 1) kk L := by
  have h2 := compF_take (eq := eq) (Nat.lt_of_le_of_lt (Nat.zero_le _) h.lt) ha hx
  rw [hd] at h2
  simp only [if_true, List.append_nil] at h2
  exact ⟨by have := h.lt; omega, h.size, by rw [h2]; exact h.low, by rw [h2]; exact h.len, h.high⟩
theorem CompG.keep {D : Type} {eq : D → D → Bool} {l L : List D} {m kk : Nat} {a x : D} (h : CompG eq l m kk L) (ha : l[m - 1]? = some a) (hx : l[m]? = some x) (hd : eq x a = false) : CompG eq l (m + 1) (kk + 1) (L.set kk x) := by
  have h2 := compF_take (eq := eq) (Nat.lt_of_le_of_lt (Nat.zero_le _) h.lt) ha hx
  rw [hd] at h2
  simp only [Bool.false_eq_true, if_false] at h2
  have hml : m < l.length := (List.getElem?_eq_some_iff.1 hx).1
  have hkl : kk < L.length := by rw [h.size]; have := h.lt; omega
  refine ⟨by have := h.lt; omega, by rw [List.length_set, h.size], ?_, by rw [h2, List.length_append, h.len]; rfl, fun i hi => ?_⟩
  · rw [h2, ← h.low, List.take_add_one, List.getElem?_set_self hkl, List.take_set_of_le (Nat.le_refl _)]
    rfl
  · rw [List.getElem?_set_ne (by omega)]
    exact h.high i (by omega)
theorem compF_short {D : Type} (eq : D → D → Bool) {l : List D} (h : l.length < 2) : compF eq l = l := by
  match l, h with
  | [], _ => rfl
  | [a], _ => rfl
def FixF {D : Type} (eq : D → D → Bool) (l : List D) (k : Nat) : Prop := compF eq (l.take k) = l.take k
end Go.Proofs.YtmhlnbihppojmaaGreat
namespace Go.Proofs.YtmhlnbihppojmaaGreat
open Go.Shelf
def sortStr_ren : Go.Shelf.Ren := ⟨fun | 6 => 40 | 8 => 101 | 9 => 100 | 19 => 170 | 20 => 171 | 21 => 161 | 22 => 162 | 23 => 163 | 24 => 164 | 25 => 165 | 26 => 166 | 27 => 167 | 28 => 168 | 29 => 169 | 36 => 207 | 31 => 208 | 32 => 209 | 37 => 210 | 38 => 211 | 39 => 212 | 41 => 243 | n => n, fun | 27 => 29 | 29 => 9 | 3 => 3 | 32 => 123 | 26 => 29 | 0 => 0 | 44 => 181 | 46 => 183 | 4 => 4 | 36 => 174 | 35 => 173 | 41 => 108 | 5 => 5 | 9 => 9 | 53 => 199 | 57 => 203 | 63 => 224 | 64 => 225 | n => n, fun | n => n⟩
theorem sortStr : Go.Proofs.SlLaysM.n6 Tryz.prog sortStr_ren := {
  mixed := by kernel_rfl
  f6 := ⟨Tryz.f40.name, by decide, Tryz.func40.trans (congrArg some (by kernel_rfl))⟩
  f8 := Tryz.func101.trans (congrArg some (by kernel_rfl))
  f9 := ⟨Tryz.f100.name, by decide, Tryz.func100.trans (congrArg some (by kernel_rfl))⟩
  f19 := Tryz.func170.trans (congrArg some (by kernel_rfl))
  f20 := Tryz.func171.trans (congrArg some (by kernel_rfl))
  f21 := ⟨Tryz.f161.name, by decide, Tryz.func161.trans (congrArg some (by kernel_rfl))⟩
  f22 := ⟨Tryz.f162.name, by decide, Tryz.func162.trans (congrArg some (by kernel_rfl))⟩
  f23 := ⟨Tryz.f163.name, by decide, Tryz.func163.trans (congrArg some (by kernel_rfl))⟩
  f24 := ⟨Tryz.f164.name, by decide, Tryz.func164.trans (congrArg some (by kernel_rfl))⟩
  f25 := ⟨Tryz.f165.name, by decide, Tryz.func165.trans (congrArg some (by kernel_rfl))⟩
  f26 := ⟨Tryz.f166.name, by decide, Tryz.func166.trans (congrArg some (by kernel_rfl))⟩
  f27 := ⟨Tryz.f167.name, by decide, Tryz.func167.trans (congrArg some (by kernel_rfl))⟩
  f28 := ⟨Tryz.f168.name, by decide, Tryz.func168.trans (congrArg some (by kernel_rfl))⟩
  f29 := ⟨Tryz.f169.name, by decide, Tryz.func169.trans (congrArg some (by kernel_rfl))⟩
  f31 := Tryz.func208.trans (congrArg some (by kernel_rfl))
  f32 := Tryz.func209.trans (congrArg some (by kernel_rfl))
  f36 := ⟨Tryz.f207.name, by decide, Tryz.func207.trans (congrArg some (by kernel_rfl))⟩
  f37 := ⟨Tryz.f210.name, by decide, Tryz.func210.trans (congrArg some (by kernel_rfl))⟩
  f38 := ⟨Tryz.f211.name, by decide, Tryz.func211.trans (congrArg some (by kernel_rfl))⟩
  f39 := ⟨Tryz.f212.name, by decide, Tryz.func212.trans (congrArg some (by kernel_rfl))⟩
  f41 := ⟨Tryz.f243.name, by decide, Tryz.func243.trans (congrArg some (by kernel_rfl))⟩
  t0 := Tryz.underlying0
  a0 := Tryz.isAgg0
  z0 := Tryz.sizeOf0
  v0 := Tryz.zeroValue0
  t3 := Tryz.underlying3
  a3 := Tryz.isAgg3
  z3 := Tryz.sizeOf3
  v3 := Tryz.zeroValue3
  t4 := Tryz.underlying4
  a4 := Tryz.isAgg4
  z4 := Tryz.sizeOf4
  v4 := Tryz.zeroValue4
  t5 := Tryz.underlying5
  a5 := Tryz.isAgg5
  z5 := Tryz.sizeOf5
  v5 := Tryz.zeroValue5
  t9 := Tryz.underlying9
  a9 := Tryz.isAgg9
  z9 := Tryz.sizeOf9
  v9 := Tryz.zeroValue9
  t26 := Tryz.underlying29
  a26 := Tryz.isAgg29
  z26 := Tryz.sizeOf29
  v26 := Tryz.zeroValue29
  t27 := Tryz.underlying29
  a27 := Tryz.isAgg29
  z27 := Tryz.sizeOf29
  v27 := Tryz.zeroValue29
  t29 := Tryz.underlying9
  a29 := Tryz.isAgg9
  z29 := Tryz.sizeOf9
  v29 := Tryz.zeroValue9
  t32 := Tryz.underlying123
  a32 := Tryz.isAgg123
  z32 := Tryz.sizeOf123
  v32 := Tryz.zeroValue123
  t35 := Tryz.underlying173
  a35 := Tryz.isAgg173
  z35 := Tryz.sizeOf173
  v35 := Tryz.zeroValue173
  t36 := Tryz.underlying174
  a36 := Tryz.isAgg174
  z36 := Tryz.sizeOf174
  v36 := Tryz.zeroValue174
  t41 := Tryz.underlying108
  a41 := Tryz.isAgg108
  z41 := Tryz.sizeOf108
  v41 := Tryz.zeroValue108
  t44 := Tryz.underlying181
  a44 := Tryz.isAgg181
  z44 := Tryz.sizeOf181
  v44 := Tryz.zeroValue181
  t46 := Tryz.underlying183
  a46 := Tryz.isAgg183
  z46 := Tryz.sizeOf183
  v46 := Tryz.zeroValue183
  t53 := Tryz.underlying199
  a53 := Tryz.isAgg199
  z53 := Tryz.sizeOf199
  v53 := Tryz.zeroValue199
  t57 := Tryz.underlying203
  a57 := Tryz.isAgg203
  z57 := Tryz.sizeOf203
  v57 := Tryz.zeroValue203
  t63 := Tryz.underlying224
  a63 := Tryz.isAgg224
  z63 := Tryz.sizeOf224
  v63 := Tryz.zeroValue224
  t64 := Tryz.underlying225
  a64 := Tryz.isAgg225
  z64 := Tryz.sizeOf225
  v64 := Tryz.zeroValue225 }
end Go.Proofs.YtmhlnbihppojmaaGreat
namespace Go.Proofs.YtmhlnbihppojmaaGreat
open Go.RowKit
theorem enc_map (l : List ByteArray) : (l.map (fun b => b.data.toList)).map Go.Proofs.encStr = flatE encS l := by
  induction l with
  | nil => rfl
  | cons a l ih =>
    rw [List.map_cons, List.map_cons, ih]
    rfl
theorem le_less (a b : List UInt8) (h : decide (a ≤ b) = true) : Op.bytesLess b a = false := by
  rw [Go.Proofs.bytesLess_eq]
  rw [decide_eq_true_eq] at h
  rw [decide_eq_false_iff_not]
  exact List.not_lt.2 h
theorem c_slices_SortS (l : List ByteArray) (v : Value) (base : Nat) (w : World) (h : RowE encS 1 9 base w l v) (hn : l.length ≤ 1048576) :
    Calls Tryz.prog 40 #[v] w fun e w' => ∃ l' : List ByteArray, e = .returned (.tuple #[]) ∧ l'.length = l.length ∧ (∀ x, x ∈ l' ↔ x ∈ l) ∧ l'.Pairwise (fun a b => lessS b a = false) ∧ RowE encS 1 9 base w' l' v ∧ Aside (fun b => v.ownBlock = some b) w w' := by
  rcases h.2 with ⟨rfl, h0⟩ | ⟨g, cap, cur, rfl, hb, hg, h1, h2, h3, h4⟩
  · obtain rfl : l = [] := List.eq_nil_of_length_eq_zero h0
    have hcon := AnyM.slices_Sort_string_none sortStr none 0 w
    change Calls Tryz.prog 40 _ _ _ at hcon
    refine hcon.mono ?_
    rintro e w' ⟨rfl, rfl⟩
    exact ⟨[], rfl, rfl, fun x => Iff.rfl, List.Pairwise.nil, h, Aside.refl _ _⟩
  · obtain ⟨ss, hss⟩ : ∃ ss, ss = l.map (fun b => b.data.toList) := ⟨_, rfl⟩
    have hsl : ss.length = l.length := by rw [hss, List.length_map]
    have hfl : ss.map Go.Proofs.encStr = flatE encS l := by rw [hss]; exact enc_map l
    have h4' : cur.toList.take ss.length = ss.map Go.Proofs.encStr := by rw [hfl, hsl]; rw [Nat.mul_one] at h4; exact h4
    have hcon := AnyM.slices_Sort_string sortStr g 0 cap ss w (holds_of_block hg h4') (row_lt hg) (by omega)
    change Calls Tryz.prog 40 _ _ _ at hcon
    rw [hsl] at hcon
    refine hcon.mono ?_
    rintro e w' ⟨rfl, n, os, rfl⟩
    obtain ⟨ts, hts⟩ : ∃ ts, ts = ss.mergeSort (fun x y => decide (x ≤ y)) := ⟨_, rfl⟩
    rw [← hts]
    have htl : ts.length = ss.length := by rw [hts, List.length_mergeSort]
    have hperm : ts.Perm ss := by rw [hts]; exact List.mergeSort_perm _ _
    have hpw : ts.Pairwise (fun a b => decide (a ≤ b) = true) := by
      rw [hts]
      refine List.pairwise_mergeSort (fun a b c h1 h2 => ?_) (fun a b => ?_) ss
      · simp only [decide_eq_true_eq] at *; exact List.le_trans h1 h2
      · simp only [Bool.or_eq_true, decide_eq_true_eq]; exact List.le_total a b
    have hback : (ts.map (fun b => (⟨b.toArray⟩ : ByteArray))).map (fun b => b.data.toList) = ts := by
      rw [List.map_map]
      conv => rhs; rw [← List.map_id ts]
      apply List.map_congr_left
      intro b _
      rfl
    refine ⟨ts.map (fun b => ⟨b.toArray⟩), rfl, by rw [List.length_map, htl, hsl], fun x => ?_, ?_, ?_, ⟨(grownBy_sorted ts.toArray).os, (grownBy_sorted ts.toArray).tape, (grownBy_sorted ts.toArray).output, (grownBy_sorted ts.toArray).size, fun b hb2 hn => (grownBy_sorted ts.toArray).block b hb2 (fun e => hn e.symm)⟩⟩
    · have hmem : ∀ z : ByteArray, z ∈ ts.map (fun b => (⟨b.toArray⟩ : ByteArray)) ↔ z.data.toList ∈ ts := fun z => by
        rw [List.mem_map]
        constructor
        · rintro ⟨b, hb3, rfl⟩; exact hb3
        · intro hz; exact ⟨_, hz, by cases z; rfl⟩
      rw [hmem, hperm.mem_iff, hss, List.mem_map]
      constructor
      · rintro ⟨b, hb3, hb4⟩
        have : b = x := by cases b; cases x; simp at hb4; rw [hb4]
        rw [← this]; exact hb3
      · intro hx; exact ⟨x, hx, rfl⟩
    · rw [List.pairwise_map]
      refine hpw.imp (fun {a b} hab => ?_)
      have := le_less a b hab
      unfold lessS
      rw [ByteArray.toList_eq, ByteArray.toList_eq]
      exact this
    · have hro := ownsRow_sorted (n := n) (os := os) (ss := ss) (ts := ts) htl hb hg (by rw [hsl]; exact h1) h2 h3
      rw [hsl] at hro
      unfold RowE
      rw [List.length_map, htl, hsl, ← enc_map, hback]
      exact hro
set_option maxHeartbeats 1000000 in
theorem x_compareNeeds (a b : Need) (ca cb : List Value) (W : World) (lo lo' : Nat) (ha : C_Need lo W.heap.size W a ca) (hb : C_Need lo' W.heap.size W b cb) :
    Calls Tryz.prog 43 #[.agg ca.toArray, .agg cb.toArray] W fun e w' => e = .returned (.int .i64 (cmpN a b)) ∧ Gr W w' := by
  obtain ⟨va, rfl, -, -, a2⟩ := ha
  obtain ⟨vb, rfl, -, -, b2⟩ := hb
  obtain ⟨A, c, rfl⟩ := a2.form
  obtain ⟨B, c', rfl⟩ := b2.form
  have hq : Below W.heap.size W ((W.alloc (.cells #[.string a.key, .int .i64 a.op, .slice A a.values.length c] 31)).alloc (.cells #[.string b.key, .int .i64 b.op, .slice B b.values.length c'] 31)) := bel
  have hbel : ∀ {w1 w2 : World}, Gr w1 w2 → Below w1.heap.size w1 w2 := fun {w1 w2} hg => by
    obtain ⟨q, os, rfl⟩ := hg
    exact ⟨rfl, rfl, rfl, by simp [Go.Sort.grow, World.drewN], fun i hi => by show ((w1.drewN q).heap ++ os)[i]? = _; rw [Array.getElem?_append_left (by simpa [World.drewN] using hi)]; rfl⟩
  go_enter Tryz.func43, Tryz.ntmps43
  go_wp2_with fail
  go_region_held3 (fun w' => Gr ((W.alloc (.cells #[.string a.key, .int .i64 a.op, .slice A a.values.length c] 31)).alloc (.cells #[.string b.key, .int .i64 b.op, .slice B b.values.length c'] 31)) w' ∧ (∀ xb xo, xb < ((W.alloc (.cells #[.string a.key, .int .i64 a.op, .slice A a.values.length c] 31)).alloc (.cells #[.string b.key, .int .i64 b.op, .slice B b.values.length c'] 31)).heap.size → w'.cell? ⟨xb, xo, none⟩ = ((W.alloc (.cells #[.string a.key, .int .i64 a.op, .slice A a.values.length c] 31)).alloc (.cells #[.string b.key, .int .i64 b.op, .slice B b.values.length c'] 31)).cell? ⟨xb, xo, none⟩)) (first | exact keepG_drew _ | exact keepG_same (by assumption) | exact keepG_alloc (by assumption) _) (first | (go_at_call 104; refine (c_strings_Compare _ _ _).mono ?_; rintro e w9 ⟨rfl, rfl⟩) | (go_at_call 105; refine (c_cmp_Compare _ _ _).mono ?_; rintro e w9 ⟨rfl, rfl⟩) | (go_at_call 106; refine (c_slices_Compare a.values b.values _ _ _ _ _ (a2.now (ext_trans hq (by first | (with_reducible exact Below.refl _ _) | exact hbel (keepG_same (by assumption)).1))) (b2.now (ext_trans hq (by first | (with_reducible exact Below.refl _ _) | exact hbel (keepG_same (by assumption)).1)))).mono ?_; rintro e w9 ⟨rfl, rfl⟩) | (go_at_call 103; refine (c_cmp_Or3 (cmpS a.key b.key) (cmpI a.op b.op) (cmpL a.values b.values) _ _ 3 ?_).mono ?_; (focus ((try rw [heap_drew]); (try (refine heap_new ?_; simp)); done)); rintro e w9 ⟨rfl, rfl⟩))
  have hg := heldG_step (by assumption)
  go_wp2_with fail
  go_ret
  exact ⟨rfl, (((Gr.refl W).alloc _).alloc _).trans hg⟩
theorem swo_map {D E : Type} {lt : E → E → Bool} (h : Go.Sort.SWO lt) (f : D → E) : Go.Sort.SWO (fun x y => lt (f x) (f y)) := ⟨fun _ => h.irrefl _, fun _ _ _ => h.trans _ _ _, fun _ _ _ => h.ntrans _ _ _⟩
theorem Aside.alln {base g : Nat} {w w' : World} {L : List NeedV} (h : AllN base w L) (hs : Aside (fun b => b = g) w w') (hg : ∀ x ∈ L, ∀ q, x.blk = some q → q ≠ g) : AllN base w' L := fun x hx =>
  (h x hx).carry (fun q hq => hs.block q (World.ownsRow.lt (h x hx).2.2.2 q hq).2 (hg x hx q hq))
theorem row_blk {base base' g n c : Nat} {w : World} {L M : List NeedV} (h : AllN base w L) (hr : RowE encN 3 31 base' w M (.slice (some ⟨g, 0, none⟩) n c)) : ∀ x ∈ L, ∀ q, x.blk = some q → q ≠ g := fun x hx q hq e =>
  own_apart (h x hx).2.2.2 hr (by decide) q hq (by rw [e]; rfl)
theorem c_SortFunc_Need (L : List NeedV) (v : Value) (base : Nat) (w : World) (h : RowE encN 3 31 base w L v) (ha : AllN base w L) (hn : L.length ≤ 1048576) :
    Calls Tryz.prog 42 #[v, .func (.func 43) #[] #[]] w fun e w' => ∃ L' : List NeedV, e = .returned (.tuple #[]) ∧ L'.Perm L ∧ (L'.map (·.d)).Pairwise (fun a b => lessN b a = false) ∧ RowE encN 3 31 base w' L' v ∧ AllN base w' L' ∧ Aside (fun b => v.ownBlock = some b) w w' := by
  by_cases hp : 0 < L.length
  · obtain ⟨g, cap, cur, rfl, hb, hg, h1, h2, -, -⟩ := h.row encN_len hp
    let D := {x : NeedV // x ∈ L}
    let enc : D → List Value := fun x => encN x.1
    have hmap : L.attach.map (fun x : D => x.1) = L := List.attach_map_subtype_val L
    have hflat : flatE enc L.attach = flatE encN L := by
      unfold flatE
      conv => rhs; rw [← hmap, List.map_map]
      rfl
    have hR : RowE enc 3 31 base w L.attach (.slice (some ⟨g, 0, none⟩) L.length cap) := by
      unfold RowE
      rw [hflat, List.length_attach]
      exact h
    haveI : Inhabited D := ⟨⟨L[0], List.getElem_mem hp⟩⟩
    have henc : ∀ x : D, (enc x).length = 3 := fun x => rfl
    have hH := hR.holds henc (by decide) (by rw [List.length_attach]; exact hp)
    have hgb := row_blk ha h
    have eg : ∀ args w, (callFunc 43 args).run Tryz.prog w = .ok (.enter 43 args) w := enters_of Tryz.func43 (by kernel_rfl) rfl
    let cmpD : D → D → Int := fun x y => cmpN x.1.d y.1.d
    have hlt : Go.Proofs.ltOf cmpD = fun x y => lessN x.1.d y.1.d := rfl
    have hO : Go.Sort.SWO (Go.Proofs.ltOf cmpD) := by rw [hlt]; exact swo_map lt_N (fun x : D => x.1.d)
    have hcon := AnyQ.slices_SortFunc sortNeed 3 Tryz.isAgg31 Tryz.sizeOf31 enc henc (fun x => encN_one x.1) cmpD hO 43 #[] g 0 cap L.attach.toArray w eg (fun m os dk _ x y => by
      have hal := Aside.alln ha (sorted_aside (enc := enc) (sz := 3) (m := m) (d' := dk) (os := os)) hgb
      exact (x_compareNeeds x.1.d y.1.d (encN x.1) (encN y.1) _ _ _ (hal x.1 x.2).C (hal y.1 y.2).C).mono fun e w' h => h) hH (row_lt hg) (by rw [List.size_toArray, List.length_attach]; omega)
    change Calls Tryz.prog 42 _ _ _ at hcon
    rw [List.size_toArray, List.length_attach] at hcon
    refine hcon.mono ?_
    rintro e w' ⟨rfl, d', m, os, hP, hS, rfl⟩
    have hpm : d'.toList.Perm L.attach := by
      obtain ⟨q1, -, q3⟩ := hP
      have q2 : d'.size = L.length := by rw [q1, List.size_toArray, List.length_attach]
      have e1 : d'.extract 0 L.length = d' := by rw [← q2]; exact Array.extract_size
      have e2 : L.attach.toArray.extract 0 L.length = L.attach.toArray := by rw [show L.length = L.attach.toArray.size by simp]; exact Array.extract_size
      rw [e1, e2] at q3
      exact q3
    have hds : d'.size = L.attach.length := by rw [← hpm.length_eq, Array.length_toList]
    have hal := Aside.alln ha (sorted_aside (enc := enc) (sz := 3) (g := g) (m := m) (d' := d') (os := os)) hgb
    have hpl : (d'.toList.map (fun x : D => x.1)).Perm L := by
      have := hpm.map (fun x : D => x.1)
      rw [hmap] at this
      exact this
    refine ⟨d'.toList.map (fun x : D => x.1), rfl, hpl, ?_, ?_, fun x hx => hal x (hpl.mem_iff.1 hx), sorted_aside.mono (fun b hb => by subst hb; rfl)⟩
    · rw [List.map_map, List.pairwise_map]
      rw [hlt] at hS
      exact pair_of_sorted (lt := fun x y : D => lessN x.1.d y.1.d) (by rw [hds, List.length_attach]; exact hS)
    · have := hR.sorted (m := m) (os := os) (d' := d') henc (by decide) hds
      unfold RowE at this ⊢
      rw [show flatE encN (d'.toList.map (fun x : D => x.1)) = flatE enc d'.toList by unfold flatE; rw [List.map_map]; rfl, List.length_map]
      exact this
  · obtain rfl : L = [] := List.eq_nil_of_length_eq_zero (by omega)
    obtain ⟨A, c, rfl⟩ := h.form
    have hcon := AnyF.slices_SortFunc_none sortNeed A c (.func (.func 43) #[] #[]) w
    change Calls Tryz.prog 42 _ _ _ at hcon
    refine hcon.mono ?_
    rintro e w' ⟨rfl, rfl⟩
    exact ⟨[], rfl, List.Perm.refl _, List.Pairwise.nil, h, ha, Aside.refl _ _⟩
end Go.Proofs.YtmhlnbihppojmaaGreat
namespace Go.Proofs.YtmhlnbihppojmaaGreat
open Go.RowKit
theorem c_long1 (x : NeedV) (w : World) : Calls Tryz.prog 38 #[.agg #[.string x.d.key, .int .i64 x.d.op, .slice x.A x.d.values.length x.c]] w fun e w' => e = .returned (.bool (decide ((40 : Int) < x.d.values.length))) ∧ Below w.heap.size w w' := by
  go_enter Tryz.func38, Tryz.ntmps38
  go_wp2_with fail
  go_ret
  exact ⟨by simp, bel⟩
set_option maxHeartbeats 1000000 in
theorem c_IndexFunc_Need (L : List NeedV) (v : Value) (w : World) (lo : Nat) (hs : SlOf C_E 3 lo w.heap.size w L v) :
    Calls Tryz.prog 97 #[v, .func (.func 38) #[] #[]] w fun e w' => ∃ ix : Int, e = .returned (.int .i64 ix) ∧ decide (ix ≥ 0) = longN (L.map (·.d)) ∧ -1 ≤ ix ∧ ix ≤ 9223372036854775807 ∧ Below w.heap.size w w' := by
  obtain ⟨A, c, rfl, hlc, hc, hA⟩ := hs
  go_enter Tryz.func97, Tryz.ntmps97
  go_wp2_with fail
  go_loopw [8] (fun i wr => ∃ k : Nat, k ≤ L.length ∧ i = .int .i64 k ∧ (∀ j x, j < k → L[j]? = some x → x.d.values.length ≤ 40) ∧ Below w.heap.size w wr) (fun i _ => L.length - (intOf i).toNat)
  case atStart => exact ⟨0, Nat.zero_le _, rfl, fun j x hj => by omega, bel⟩
  case round =>
    obtain ⟨k, hk, rfl, hall, hbr⟩ := hrel
    have Hall := Lib.hid hall
    clear hall
    by_cases hlt : k < L.length
    · obtain ⟨b, o, rfl, -, hb2, hcell⟩ := hA (by omega)
      obtain ⟨x, hx⟩ := exists_at hlt
      obtain ⟨es, -, hcs, hC⟩ := hcell k x hx
      obtain rfl := encN_C x es hC
      have hc0 := (hbr.cell (p := ⟨b, o + k * 3 + 0, none⟩) (by simp; omega)).trans (hcs 0 (by omega))
      have hc1 := (hbr.cell (p := ⟨b, o + k * 3 + 1, none⟩) (by simp; omega)).trans (hcs 1 (by omega))
      have hc2 := (hbr.cell (p := ⟨b, o + k * 3 + 2, none⟩) (by simp; omega)).trans (hcs 2 (by omega))
      simp [encN] at hc0 hc1 hc2
      have hbl : b < wr.heap.size := Nat.lt_of_lt_of_le hb2 hbr.size
      have hk0 : (0 : Int) ≤ k := by omega
      have hk1 : (k : Int) < L.length := by omega
      have Hx := Lib.hid hx
      clear hcs hcell hA hx
      go_wp2_with fail
      refine (c_long1 x _).mono ?_
      rintro e w1 ⟨rfl, hb⟩
      have hb1 := ext_trans hbr hb
      by_cases h40 : (40 : Int) < x.d.values.length
      · have hlg := Lib.hid (show longN (L.map (·.d)) = true from longN_at (k := k) (d := x.d) (by rw [List.getElem?_map, Hx.out]; rfl) (by omega))
        rw [decide_eq_true h40]
        go_wp2_with fail
        go_ret
        exact ⟨_, rfl, by rw [hlg.out]; simp, by omega, by omega, hb1⟩
      · rw [decide_eq_false h40]
        have Hn := Lib.hid (show ∀ j y, j < k + 1 → L[j]? = some y → y.d.values.length ≤ 40 from fun j y hj hy => by
          by_cases e : j = k
          · subst e; rw [Hx.out] at hy; obtain rfl := Option.some.inj hy; omega
          · exact Hall.out j y (by omega) hy)
        go_wp2_with fail
        go_roundw
        case rel => exact ⟨k + 1, by omega, by go_num, Hn.out, hb1⟩
        case measure => simp [intOf]; omega
    · obtain rfl : k = L.length := by omega
      clear hA
      have hlg := Lib.hid (show longN (L.map (·.d)) = false from longN_no (fun d hd => by
        obtain ⟨x, hx, rfl⟩ := List.mem_map.1 hd
        obtain ⟨i, hi⟩ := List.getElem?_of_mem hx
        exact Hall.out i x (List.getElem?_eq_some_iff.1 hi).1 hi))
      go_wp2_with fail
      go_ret
      exact ⟨_, rfl, by rw [hlg.out]; simp, by omega, by omega, hbr⟩
theorem c_ContainsFunc_Need (l : List Need) (v : Value) (w : World) (lo : Nat) (hs : Sl_Need lo w.heap.size w l v) :
    Calls Tryz.prog 37 #[v, .func (.func 38) #[] #[]] w fun e w' => e = .returned (.bool (longN l)) ∧ Below w.heap.size w w' := by
  obtain ⟨A, c, rfl⟩ := hs.form
  obtain ⟨L, hL, hS, -⟩ := open_needs hs
  go_enter Tryz.func37, Tryz.ntmps37
  go_wp2_with fail
  refine (c_IndexFunc_Need L _ _ _ hS).mono ?_
  rintro e w1 ⟨ix, rfl, hix, hix1, hix2, hb⟩
  rw [hL] at hix
  go_wp2_with fail
  go_ret
  exact ⟨ret_bool (by rw [← hix]), hb⟩
theorem c_same2 (x y : NeedV) (w : World) (lo lo' : Nat) (ha : C_Need lo w.heap.size w x.d (encN x)) (hb : C_Need lo' w.heap.size w y.d (encN y)) : Calls Tryz.prog 45 #[.agg #[.string x.d.key, .int .i64 x.d.op, .slice x.A x.d.values.length x.c], .agg #[.string y.d.key, .int .i64 y.d.op, .slice y.A y.d.values.length y.c]] w fun e w' => e = .returned (.bool (eqN x.d y.d)) ∧ Below w.heap.size w w' := by
  have Ha := Lib.hid (show C_Need lo w.heap.size w x.d [.string x.d.key, .int .i64 x.d.op, .slice x.A x.d.values.length x.c] from ha)
  have Hb := Lib.hid (show C_Need lo' w.heap.size w y.d [.string y.d.key, .int .i64 y.d.op, .slice y.A y.d.values.length y.c] from hb)
  have Hz := Lib.hid (cmpN_zero x.d y.d)
  have hq : Below w.heap.size w ((w.alloc (.cells #[.string x.d.key, .int .i64 x.d.op, .slice x.A x.d.values.length x.c] 31)).alloc (.cells #[.string y.d.key, .int .i64 y.d.op, .slice y.A y.d.values.length y.c] 31)) := bel
  clear ha hb
  go_enter Tryz.func45, Tryz.ntmps45
  go_wp2_with fail
  refine (c_impl_compareNeeds x.d y.d [.string x.d.key, .int .i64 x.d.op, .slice x.A x.d.values.length x.c] [.string y.d.key, .int .i64 y.d.op, .slice y.A y.d.values.length y.c] _ _ _ (C_Need.now Ha.out hq) (C_Need.now Hb.out hq)).mono ?_
  rintro e w1 ⟨rfl, hb⟩
  go_wp2_with fail
  go_ret
  exact ⟨ret_bool Hz.out, hq.trans (hb.mono hq.size)⟩
def eqV (x y : NeedV) : Bool := eqN x.d y.d
set_option maxHeartbeats 4000000 in
set_option maxRecDepth 10000 in
theorem c_CompactFunc_Need (l : List NeedV) (v : Value) (base : Nat) (w : World) (h : RowE encN 3 31 base w l v) (ha : AllN base w l) (hn : l.length ≤ 1048576) :
    Calls Tryz.prog 44 #[v, .func (.func 45) #[] #[]] w fun e w' => ∃ A c, e = .returned (.slice A (compF eqV l).length c) ∧ RowE encN 3 31 base w' (compF eqV l) (.slice A (compF eqV l).length c) ∧ AllN base w' (compF eqV l) ∧ Aside (fun b => v.ownBlock = some b) w w' := by
  have HA := Lib.hid ha
  have H := Lib.hid h
  by_cases h2 : l.length < 2
  · obtain ⟨A, c, rfl⟩ := h.form
    have HS := Lib.hid (compF_short eqV h2)
    have h2i : (l.length : Int) < 2 := by omega
    clear h ha
    go_enter Tryz.func44, Tryz.ntmps44
    go_wp2_with fail
    go_ret
    exact ⟨A, c, by rw [HS.out]; rfl, by rw [HS.out]; exact H.out, by rw [HS.out]; exact HA.out, Aside.refl _ _⟩
  · obtain ⟨g, cap, cur, rfl, -, hg, hlc, hc63, -, -⟩ := h.row encN_len (by omega)
    have hgl := row_lt hg
    have h2i : ¬ (l.length : Int) < 2 := by omega
    have HGb := Lib.hid (row_blk ha h)
    clear h hg ha
    go_enter Tryz.func44, Tryz.ntmps44
    go_wp2_with fail
    go_loopw [5] (fun s3 wr => ∃ k : Nat, 1 ≤ k ∧ k ≤ l.length ∧ s3 = .int .i64 k ∧ Below w.heap.size w wr ∧ FixF eqV l k) (fun s3 _ => l.length - (intOf s3).toNat)
    case atStart => exact ⟨1, Nat.le_refl _, by omega, rfl, Below.refl _ _, compF_short eqV (by rw [List.length_take]; omega)⟩
    case round =>
      obtain ⟨k, hk1, hk, rfl, hbw, hfix⟩ := hrel
      by_cases hlt : k < l.length
      · obtain ⟨-, -, -, -, cur, hg, -, hrow⟩ := (H.out.below hbw).at encN_len
        obtain ⟨x, hx⟩ := exists_at hlt
        obtain ⟨y, hy⟩ := exists_at (show k - 1 < l.length by omega)
        have hx0 : wr.cell? ⟨g, k * 3, none⟩ = some (.string x.d.key) := by rw [cell_of_row _ g _ cur _ _ hg]; exact hrow k x hx 0 (by decide)
        have hx1 : wr.cell? ⟨g, k * 3 + 1, none⟩ = some (.int .i64 x.d.op) := by rw [cell_of_row _ g _ cur _ _ hg]; exact hrow k x hx 1 (by decide)
        have hx2 : wr.cell? ⟨g, k * 3 + 2, none⟩ = some (.slice x.A x.d.values.length x.c) := by rw [cell_of_row _ g _ cur _ _ hg]; exact hrow k x hx 2 (by decide)
        have hy0 : wr.cell? ⟨g, (k - 1) * 3, none⟩ = some (.string y.d.key) := by rw [cell_of_row _ g _ cur _ _ hg]; exact hrow (k - 1) y hy 0 (by decide)
        have hy1 : wr.cell? ⟨g, (k - 1) * 3 + 1, none⟩ = some (.int .i64 y.d.op) := by rw [cell_of_row _ g _ cur _ _ hg]; exact hrow (k - 1) y hy 1 (by decide)
        have hy2 : wr.cell? ⟨g, (k - 1) * 3 + 2, none⟩ = some (.slice y.A y.d.values.length y.c) := by rw [cell_of_row _ g _ cur _ _ hg]; exact hrow (k - 1) y hy 2 (by decide)
        have hgl2 := row_lt hg
        have hk0 : (0 : Int) ≤ k := by omega
        have hk1' : (1 : Int) ≤ k := by omega
        have hk2 : (k : Int) < l.length := by omega
        have hk3 : (k : Int) - 1 < l.length := by omega
        have hkc : (k : Int) ≤ cap := by omega
        have HCx := Lib.hid ((HA.out x (List.mem_of_getElem? hx)).below hbw).C
        have HCy := Lib.hid ((HA.out y (List.mem_of_getElem? hy)).below hbw).C
        have Hx := Lib.hid hx
        have Hy := Lib.hid hy
        clear hx hy hrow hg
        go_wp2_with fail
        rcases q9 : eqN x.d y.d with _ | _
        all_goals
          refine wp_region_det 11 (by kernel_rfl) (by kernel_rfl) (by decide) ?_
          apply Exists.intro
          refine And.intro ?_ ?_
          · (intro W hW; (try simp only [Act.put, List.setIfInBounds_toArray, List.set_cons_zero, List.set_cons_succ]); first | (go_wp2_with fail; exact ⟨rfl, rfl, Below.refl _ _⟩))
          apply Exists.intro
          refine And.intro ?_ ?_
          · (intro W hW; (try simp only [Act.put, List.setIfInBounds_toArray, List.set_cons_zero, List.set_cons_succ]); first | (go_wp2_with fail; exact ⟨rfl, rfl, Below.refl _ _⟩))
          apply Exists.intro
          refine And.intro ?_ ?_
          · (intro W hW; (try simp only [Act.put, List.setIfInBounds_toArray, List.set_cons_zero, List.set_cons_succ]); first | (go_wp2_with fail; exact ⟨rfl, rfl, Below.refl _ _⟩))
          apply Exists.intro
          refine And.intro ?_ ?_
          · (intro W hW; (try simp only [Act.put, List.setIfInBounds_toArray, List.set_cons_zero, List.set_cons_succ]); first | (go_wp2_with fail; exact ⟨rfl, rfl, Below.refl _ _⟩))
          apply Exists.intro
          refine And.intro ?_ ?_
          · (intro W hW; (try simp only [Act.put, List.setIfInBounds_toArray, List.set_cons_zero, List.set_cons_succ]); first | (obtain ⟨hcW, hfW⟩ := bcell hW; have hsW := hW.size; (try simp at hsW); (try have hsW0 := lt_of_succ_le hsW); (try (have hsW1 := lt_pred hsW; (try (have hsW2 := lt_pred hsW1)))); go_wp2_with fail; exact ⟨rfl, rfl, Below.refl _ _⟩))
          apply Exists.intro
          refine And.intro ?_ ?_
          · (intro W hW; (try simp only [Act.put, List.setIfInBounds_toArray, List.set_cons_zero, List.set_cons_succ]); first | (go_wp2_with fail; exact ⟨rfl, rfl, Below.refl _ _⟩))
          apply Exists.intro
          refine And.intro ?_ ?_
          · (intro W hW; (try simp only [Act.put, List.setIfInBounds_toArray, List.set_cons_zero, List.set_cons_succ]); first | (go_wp2_with fail; exact ⟨rfl, rfl, Below.refl _ _⟩))
          apply Exists.intro
          refine And.intro ?_ ?_
          · (intro W hW; (try simp only [Act.put, List.setIfInBounds_toArray, List.set_cons_zero, List.set_cons_succ]); first | (go_wp2_with fail; exact ⟨rfl, rfl, Below.refl _ _⟩))
          apply Exists.intro
          refine And.intro ?_ ?_
          · (intro W hW; (try simp only [Act.put, List.setIfInBounds_toArray, List.set_cons_zero, List.set_cons_succ]); first | (go_wp2_with fail; exact ⟨rfl, rfl, Below.refl _ _⟩))
          apply Exists.intro
          refine And.intro ?_ ?_
          · (intro W hW; (try simp only [Act.put, List.setIfInBounds_toArray, List.set_cons_zero, List.set_cons_succ]); first | (obtain ⟨hcW, hfW⟩ := bcell hW; have hsW := hW.size; (try simp at hsW); (try have hsW0 := lt_of_succ_le hsW); (try (have hsW1 := lt_pred hsW; (try (have hsW2 := lt_pred hsW1)))); go_wp2_with fail; exact ⟨rfl, rfl, Below.refl _ _⟩))
          apply Exists.intro
          refine And.intro ?_ ?_
          · (intro W hW; (try simp only [Act.put, List.setIfInBounds_toArray, List.set_cons_zero, List.set_cons_succ]); first | (obtain ⟨hcW, hfW⟩ := bcell hW; have hsW := hW.size; (try simp at hsW); (try have hsW0 := lt_of_succ_le hsW); (try (have hsW1 := lt_pred hsW; (try (have hsW2 := lt_pred hsW1)))); go_wp2_with (first | (go_at_call 45; refine (c_same2 x y _ _ _ (C_Need.now HCx.out bel) (C_Need.now HCy.out bel)).mono ?_; rintro e w9 ⟨rfl, hb9⟩; rw [q9])); exact ⟨rfl, rfl, bel⟩))
          intro w1 hb
          (first | (have hcu2 := Cum.join hcu hb; (try clear hcu); (try clear hc); (try clear hfz); (try clear hsz); (try clear hs0); (try clear hs1); (try clear hs2); (try clear hs3); (try clear hs4); ) | have hcu2 := Cum.mk hb); have hcu := hcu2; clear hcu2; obtain ⟨hc, hfz⟩ := bcell hcu.h; have hsz := hcu.h.size; (try simp at hsz); (try have hs0 := lt_of_succ_le hsz); (try (have hs1 := lt_pred hsz; (try (have hs2 := lt_pred hs1; (try (have hs3 := lt_pred hs2; (try have hs4 := lt_pred hs3)))))))
          (try simp only [Act.put, List.setIfInBounds_toArray, List.set_cons_zero, List.set_cons_succ])
          (try simp only [List.drop_succ_cons, List.drop_nil])
          have Bq := hbw.trans (hb.mono hbw.size)
          first
            | (have hne : eqV x y = false := q9
               have Hf := Lib.hid (show FixF eqV l (k + 1) by unfold FixF; unfold FixF at hfix; rw [compF_take hk1 Hy.out Hx.out, hne, hfix, List.take_add_one, Hx.out]; rfl)
               go_wp2_with fail
               go_roundw
               case rel => exact ⟨k + 1, by omega, by omega, by go_num, Bq, Hf.out⟩
               case measure => simp [intOf]; omega)
            | skip
        have hI0 := Lib.hid (CompG.start hk1 Hy.out Hx.out hfix q9)
        have HRow := Lib.hid (H.out.below Bq)
        have HAs : Aside (fun b => b = g) w w1 := Aside.of_below Bq
        clear q9
        go_wp2_with fail
        go_loopw [5, 7] (fun s3 s5 wr => ∃ (kk k2 : Nat) (L : List NeedV), s3 = .int .i64 kk ∧ s5 = .int .i64 k2 ∧ 1 ≤ k2 ∧ k + k2 ≤ l.length ∧ CompG eqV l (k + k2) kk L ∧ RowE encN 3 31 base wr L (.slice (some ⟨g, 0, none⟩) l.length cap) ∧ Aside (fun b => b = g) w wr) (fun _ s5 _ => l.length - k - (intOf s5).toNat)
        case atStart => exact ⟨k, 1, l, rfl, rfl, Nat.le_refl _, by omega, hI0.out, HRow.out, HAs⟩
        case round =>
          obtain ⟨kk, k2, L, rfl, rfl, h1, hle, hI, hRw, hAs⟩ := hrel
          have hkk := hI.lt
          have HI := Lib.hid hI
          have HR2 := Lib.hid hRw
          have hLl := Lib.hid hI.size
          have HAw := Lib.hid (Aside.alln HA.out hAs HGb.out)
          obtain ⟨-, -, -, -, cur, hg, hcs, hrow⟩ := hRw.at encN_len
          have hfz : ∀ o, wr.frozen? ⟨g, o, none⟩ = false := fun o => frozen_row hg o
          have hgl3 := row_lt hg
          by_cases hlt2 : k + k2 < l.length
          · obtain ⟨x, hx⟩ := exists_at hlt2
            obtain ⟨y, hy⟩ := exists_at (show k + k2 - 1 < l.length by omega)
            obtain ⟨z, hz⟩ := exists_at (show kk < l.length by omega)
            have hxL := (hI.high (k + k2) (by omega)).trans hx
            have hyL := (hI.high (k + k2 - 1) (by omega)).trans hy
            have hzL := (hI.high kk (by omega)).trans hz
            have hx0 : wr.cell? ⟨g, k * 3 + k2 * 3, none⟩ = some (.string x.d.key) := by rw [cell_of_row _ g _ cur _ _ hg, show k * 3 + k2 * 3 = (k + k2) * 3 + 0 by omega]; exact hrow _ x hxL 0 (by decide)
            have hx1 : wr.cell? ⟨g, k * 3 + k2 * 3 + 1, none⟩ = some (.int .i64 x.d.op) := by rw [cell_of_row _ g _ cur _ _ hg, show k * 3 + k2 * 3 + 1 = (k + k2) * 3 + 1 by omega]; exact hrow _ x hxL 1 (by decide)
            have hx2 : wr.cell? ⟨g, k * 3 + k2 * 3 + 2, none⟩ = some (.slice x.A x.d.values.length x.c) := by rw [cell_of_row _ g _ cur _ _ hg, show k * 3 + k2 * 3 + 2 = (k + k2) * 3 + 2 by omega]; exact hrow _ x hxL 2 (by decide)
            have hy0 : wr.cell? ⟨g, k * 3 + (k2 - 1) * 3, none⟩ = some (.string y.d.key) := by rw [cell_of_row _ g _ cur _ _ hg, show k * 3 + (k2 - 1) * 3 = (k + k2 - 1) * 3 + 0 by omega]; exact hrow _ y hyL 0 (by decide)
            have hy1 : wr.cell? ⟨g, k * 3 + (k2 - 1) * 3 + 1, none⟩ = some (.int .i64 y.d.op) := by rw [cell_of_row _ g _ cur _ _ hg, show k * 3 + (k2 - 1) * 3 + 1 = (k + k2 - 1) * 3 + 1 by omega]; exact hrow _ y hyL 1 (by decide)
            have hy2 : wr.cell? ⟨g, k * 3 + (k2 - 1) * 3 + 2, none⟩ = some (.slice y.A y.d.values.length y.c) := by rw [cell_of_row _ g _ cur _ _ hg, show k * 3 + (k2 - 1) * 3 + 2 = (k + k2 - 1) * 3 + 2 by omega]; exact hrow _ y hyL 2 (by decide)
            have hz0 : wr.cell? ⟨g, kk * 3, none⟩ = some (.string z.d.key) := by rw [cell_of_row _ g _ cur _ _ hg]; exact hrow _ z hzL 0 (by decide)
            have hz1 : wr.cell? ⟨g, kk * 3 + 1, none⟩ = some (.int .i64 z.d.op) := by rw [cell_of_row _ g _ cur _ _ hg]; exact hrow _ z hzL 1 (by decide)
            have hz2 : wr.cell? ⟨g, kk * 3 + 2, none⟩ = some (.slice z.A z.d.values.length z.c) := by rw [cell_of_row _ g _ cur _ _ hg]; exact hrow _ z hzL 2 (by decide)
            have e1 : (1 : Int) ≤ k2 := by omega
            have e2 : (k2 : Int) < l.length - k := by omega
            have e3 : (0 : Int) ≤ k2 := by omega
            have e4 : (k2 : Int) - 1 < l.length - k := by omega
            have e5 : k2 < l.length - k := by omega
            have e6 : (kk : Int) < l.length := by omega
            have e7 : (0 : Int) ≤ kk := by omega
            have HCx := Lib.hid (HAw.out x (List.mem_of_getElem? hx)).C
            have HCy := Lib.hid (HAw.out y (List.mem_of_getElem? hy)).C
            have Hx := Lib.hid hx
            have Hy := Lib.hid hy
            clear hx hy hz hxL hyL hzL hrow hg hcs hI hRw
            go_wp2_with fail
            rcases q9 : eqN x.d y.d with _ | _
            all_goals
              refine wp_region_det 12 (by kernel_rfl) (by kernel_rfl) (by decide) ?_
              apply Exists.intro
              refine And.intro ?_ ?_
              · (intro W hW; (try simp only [Act.put, List.setIfInBounds_toArray, List.set_cons_zero, List.set_cons_succ]); first | (go_wp2_with fail; exact ⟨rfl, rfl, Below.refl _ _⟩))
              apply Exists.intro
              refine And.intro ?_ ?_
              · (intro W hW; (try simp only [Act.put, List.setIfInBounds_toArray, List.set_cons_zero, List.set_cons_succ]); first | (go_wp2_with fail; exact ⟨rfl, rfl, Below.refl _ _⟩))
              apply Exists.intro
              refine And.intro ?_ ?_
              · (intro W hW; (try simp only [Act.put, List.setIfInBounds_toArray, List.set_cons_zero, List.set_cons_succ]); first | (go_wp2_with fail; exact ⟨rfl, rfl, Below.refl _ _⟩))
              apply Exists.intro
              refine And.intro ?_ ?_
              · (intro W hW; (try simp only [Act.put, List.setIfInBounds_toArray, List.set_cons_zero, List.set_cons_succ]); first | (go_wp2_with fail; exact ⟨rfl, rfl, Below.refl _ _⟩))
              apply Exists.intro
              refine And.intro ?_ ?_
              · (intro W hW; (try simp only [Act.put, List.setIfInBounds_toArray, List.set_cons_zero, List.set_cons_succ]); first | (obtain ⟨hcW, hfW⟩ := bcell hW; have hsW := hW.size; (try simp at hsW); (try have hsW0 := lt_of_succ_le hsW); (try (have hsW1 := lt_pred hsW; (try (have hsW2 := lt_pred hsW1)))); go_wp2_with fail; exact ⟨rfl, rfl, Below.refl _ _⟩))
              apply Exists.intro
              refine And.intro ?_ ?_
              · (intro W hW; (try simp only [Act.put, List.setIfInBounds_toArray, List.set_cons_zero, List.set_cons_succ]); first | (go_wp2_with fail; exact ⟨rfl, rfl, Below.refl _ _⟩))
              apply Exists.intro
              refine And.intro ?_ ?_
              · (intro W hW; (try simp only [Act.put, List.setIfInBounds_toArray, List.set_cons_zero, List.set_cons_succ]); first | (go_wp2_with fail; exact ⟨rfl, rfl, Below.refl _ _⟩))
              apply Exists.intro
              refine And.intro ?_ ?_
              · (intro W hW; (try simp only [Act.put, List.setIfInBounds_toArray, List.set_cons_zero, List.set_cons_succ]); first | (go_wp2_with fail; exact ⟨rfl, rfl, Below.refl _ _⟩))
              apply Exists.intro
              refine And.intro ?_ ?_
              · (intro W hW; (try simp only [Act.put, List.setIfInBounds_toArray, List.set_cons_zero, List.set_cons_succ]); first | (go_wp2_with fail; exact ⟨rfl, rfl, Below.refl _ _⟩))
              apply Exists.intro
              refine And.intro ?_ ?_
              · (intro W hW; (try simp only [Act.put, List.setIfInBounds_toArray, List.set_cons_zero, List.set_cons_succ]); first | (obtain ⟨hcW, hfW⟩ := bcell hW; have hsW := hW.size; (try simp at hsW); (try have hsW0 := lt_of_succ_le hsW); (try (have hsW1 := lt_pred hsW; (try (have hsW2 := lt_pred hsW1)))); go_wp2_with fail; exact ⟨rfl, rfl, Below.refl _ _⟩))
              apply Exists.intro
              refine And.intro ?_ ?_
              · (intro W hW; (try simp only [Act.put, List.setIfInBounds_toArray, List.set_cons_zero, List.set_cons_succ]); first | (obtain ⟨hcW, hfW⟩ := bcell hW; have hsW := hW.size; (try simp at hsW); (try have hsW0 := lt_of_succ_le hsW); (try (have hsW1 := lt_pred hsW; (try (have hsW2 := lt_pred hsW1)))); go_wp2_with (first | (go_at_call 45; refine (c_same2 x y _ _ _ (C_Need.now HCx.out bel) (C_Need.now HCy.out bel)).mono ?_; rintro e w9 ⟨rfl, hb9⟩; rw [q9])); exact ⟨rfl, rfl, bel⟩))
              apply Exists.intro
              refine And.intro ?_ ?_
              · (intro W hW; (try simp only [Act.put, List.setIfInBounds_toArray, List.set_cons_zero, List.set_cons_succ]); first | (go_wp2_with fail; exact ⟨rfl, rfl, Below.refl _ _⟩))
              intro w1 hb
              (first | (have hcu2 := Cum.join hcu hb; (try clear hcu); (try clear hc); (try clear hfz); (try clear hsz); (try clear hs0); (try clear hs1); (try clear hs2); (try clear hs3); (try clear hs4); ) | have hcu2 := Cum.mk hb); have hcu := hcu2; clear hcu2; obtain ⟨hc, hfz⟩ := bcell hcu.h; have hsz := hcu.h.size; (try simp at hsz); (try have hs0 := lt_of_succ_le hsz); (try (have hs1 := lt_pred hsz; (try (have hs2 := lt_pred hs1; (try (have hs3 := lt_pred hs2; (try have hs4 := lt_pred hs3)))))))
              (try simp only [Act.put, List.setIfInBounds_toArray, List.set_cons_zero, List.set_cons_succ])
              (try simp only [List.drop_succ_cons, List.drop_nil])
              have Bq := hAs.trans (Aside.of_below hb)
              have HR3 := Lib.hid (HR2.out.below hb)
              have hfw : ∀ o, w1.frozen? ⟨g, o, none⟩ = false := (by intro o; obtain ⟨-, -, -, -, cur9, hg9, -⟩ := HR3.out.at encN_len; exact frozen_row hg9 o)
              have hkL := Lib.hid (show kk < L.length by rw [hLl.out]; omega)
              first
                | (have heq : eqV x y = true := q9
                   have HI2 := Lib.hid (HI.out.skip (show l[k + k2 - 1]? = some y from Hy.out) Hx.out heq)
                   go_wp2_with fail
                   go_roundw
                   case rel => exact ⟨kk, k2 + 1, L, rfl, by go_num, by omega, by omega, HI2.out, HR3.out, Bq⟩
                   case measure => simp [intOf]; omega)
                | (have hne : eqV x y = false := q9
                   have HI2 := Lib.hid (HI.out.keep (show l[k + k2 - 1]? = some y from Hy.out) Hx.out hne)
                   have HR4 := Lib.hid (HR3.out.store encN_len (by decide) hkL.out (x := x))
                   clear q9
                   go_wp2_with fail
                   go_roundw
                   case rel => exact ⟨kk + 1, k2 + 1, L.set kk x, by go_num, by go_num, by omega, by omega, HI2.out, HR4.out, Bq.trans (aside_setCells (S := fun b => b = g) (g := g) rfl (encN x) (kk * 3) _)⟩
                   case measure => simp [intOf]; omega)
          · have hend : k + k2 = l.length := by omega
            have hkl : kk < l.length := by omega
            have hks : kk * 3 + (l.length - kk) * 3 = l.length * 3 := by omega
            obtain ⟨zs, hzl, hcl⟩ := run_clear_row (P := Tryz.prog) wr 24 31 (.agg #[.string ⟨#[]⟩, .int .i64 0, .slice none 0 0]) 3 Tryz.underlying24 (fun _ => by kernel_rfl) rfl (by decide) g (kk * 3) (l.length - kk) (cap - kk) (by omega) (fun j hj => by rw [cell_of_row _ g _ cur _ _ hg, Array.getElem?_eq_getElem (by omega)]; rfl) (fun j _ => hfz _)
            have HI2 := Lib.hid (show (compF eqV l).length = kk ∧ L.take kk = compF eqV l by have a := hI.len; have b := hI.low; rw [hend, List.take_length] at a b; exact ⟨a, b⟩)
            have HR4 := Lib.hid (hRw.cut (zs := zs) encN_len (show kk ≤ L.length by rw [hLl.out]; omega))
            have HAz := Lib.hid (show Aside (fun b => b = g) w (wr.setCells g (kk * 3) zs) from hAs.trans (aside_setCells (S := fun b => b = g) (g := g) rfl zs (kk * 3) _))
            have HAf := Lib.hid (show AllN base (wr.setCells g (kk * 3) zs) (compF eqV l) from fun z hz => Aside.alln HA.out HAz.out HGb.out z ((compF_sub eqV l).subset hz))
            have e6 : (kk : Int) ≤ l.length := by omega
            have e7 : (0 : Int) ≤ kk := by omega
            have e8 : (kk : Int) ≤ cap := by omega
            have e9 : ¬ (k2 : Int) < l.length - k := by omega
            have HH := Lib.hid hend
            clear hI hRw hrow hg hcs hzl hks hend
            go_wp2_with fail
            go_ret
            exact ⟨some ⟨g, 0, none⟩, cap, by rw [HI2.out.1]; rfl, by rw [HI2.out.1, ← HI2.out.2]; exact HR4.out, HAf.out, HAz.out.mono (fun b hb => by subst hb; rfl)⟩
      · obtain rfl : k = l.length := by omega
        have HF := Lib.hid (show compF eqV l = l by unfold FixF at hfix; rw [List.take_length] at hfix; exact hfix)
        have hnn : ¬ (l.length : Int) < l.length := by omega
        go_wp2_with fail
        go_ret
        exact ⟨some ⟨g, 0, none⟩, cap, by rw [HF.out]; rfl, by rw [HF.out]; exact H.out.below hbw, by rw [HF.out]; exact fun z hz => (HA.out z hz).below hbw, Aside.of_below hbw⟩
end Go.Proofs.YtmhlnbihppojmaaGreat
