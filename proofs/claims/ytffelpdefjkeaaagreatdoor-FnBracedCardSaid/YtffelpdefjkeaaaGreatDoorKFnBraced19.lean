/- Written by wip/tools/pack.py: the texts that FnBraced needs, without what it does not need. No conditions. -/
import Derived.Test.YtffelpdefjkeaaaGreatDoorKFnBraced17
import Derived.Test.YtffelpdefjkeaaaGreatDoorKFnBraced18
import Derived.Test.YtffelpdefjkeaaaGreatDoorKFnBraced12
import Derived.Test.YtffelpdefjkeaaaGreatDoorKFnBraced13
import Derived.Test.YtffelpdefjkeaaaGreatDoorKFnBraced1
import Derived.Test.YtffelpdefjkeaaaGreatDoorKFnBraced14
import Derived.Deep.RegionLaw
import Derived.Test.YtffelpdefjkeaaaGreatDoorKFnBraced8
import Derived.Test.YtffelpdefjkeaaaGreatDoorKFnBraced10
import Derived.Test.YtffelpdefjkeaaaGreatDoorKFnBraced3
import Derived.Test.YtffelpdefjkeaaaGreatDoorKFnBraced15
import Derived.Test.YtffelpdefjkeaaaGreatDoorKFnBraced16
import Derived.Lib.LazyBuf
import Derived.Test.YtffelpdefjkeaaaGreatDoorKFnBraced11
import Derived.Test.YtffelpdefjkeaaaGreatDoorKFnBraced7
import Derived.Test.YtffelpdefjkeaaaGreatDoorKFnBraced6
import Derived.Test.YtffelpdefjkeaaaGreatDoorKFnBraced5
import Derived.Deep.CutBlock
import Derived.Deep.CutRange
namespace Go.Proofs.YtffelpdefjkeaaaGreatDoor
open Go.RowKit Go.Lib
structure PutSt where
  laid : Bool
  ks : List ByteArray
  vs : List TreeD
def putOne (key : ByteArray) (kid : TreeD) (st : PutSt) (k : ByteArray) (v : TreeD) : PutSt :=
  if !st.laid && !lessS k key then (if k = key then ⟨true, st.ks ++ [key], st.vs ++ [kid]⟩ else ⟨true, (st.ks ++ [key]) ++ [k], (st.vs ++ [kid]) ++ [v]⟩)
  else (if k = key then st else ⟨st.laid, st.ks ++ [k], st.vs ++ [v]⟩)
def putS (key : ByteArray) (kid : TreeD) (ks : List ByteArray) (vs : List TreeD) : Nat → PutSt
  | 0 => ⟨false, [], []⟩
  | i + 1 => match ks[i]?, vs[i]? with | some k, some v => putOne key kid (putS key kid ks vs i) k v | _, _ => putS key kid ks vs i
theorem putS_next {key : ByteArray} {kid : TreeD} {ks : List ByteArray} {vs : List TreeD} {i : Nat} {k : ByteArray} {v : TreeD} (hk : ks[i]? = some k) (hv : vs[i]? = some v) : putS key kid ks vs (i + 1) = putOne key kid (putS key kid ks vs i) k v := by
  rw [putS, hk, hv]
def putE (key : ByteArray) (kid : TreeD) (st : PutSt) : PutSt := if st.laid then st else ⟨true, st.ks ++ [key], st.vs ++ [kid]⟩
def putD (d : TreeD) (key : ByteArray) (kid : TreeD) : TreeD := tMap (putE key kid (putS key kid d.keys d.kids d.keys.length)).ks (putE key kid (putS key kid d.keys d.kids d.keys.length)).vs
def putB (n : Nat) (d : TreeD) (key : ByteArray) (kid : TreeD) : Bool := d.kind == 6 && okT n d && okT n (putD d key kid)
/-- What PutKid yields. -/
def putT (n : Nat) (d : TreeD) (key : ByteArray) (kid : TreeD) : TreeD := if putB n d key kid = true then putD d key kid else d
structure PutI (key : ByteArray) (kid : TreeD) (ks : List ByteArray) (vs : List TreeD) (i : Nat) (st : PutSt) : Prop where
  len : st.ks.length = st.vs.length
  cnt : st.ks.length ≤ i + 1
  cnt0 : st.laid = false → st.ks.length ≤ i
  sort : SortK st.ks
  mem : ∀ x ∈ st.ks, x = key ∨ x ∈ ks
  memv : ∀ x ∈ st.vs, x = kid ∨ x ∈ vs
  low : ∀ x ∈ st.ks, ∀ j k, i ≤ j → ks[j]? = some k → lessS x k = true
  yet : st.laid = false → ∀ x ∈ st.ks, lessS x key = true
theorem sort_push {ks : List ByteArray} {k : ByteArray} (h : SortK ks) (hk : ∀ x ∈ ks, lessS x k = true) : SortK (ks ++ [k]) := by
  unfold SortK at *
  rw [List.pairwise_append]
  refine ⟨h, by simp, fun a ha b hb => ?_⟩
  simp at hb
  subst hb
  exact hk a ha
theorem sort_at {ks : List ByteArray} (h : SortK ks) {i j : Nat} {a b : ByteArray} (hij : i < j) (ha : ks[i]? = some a) (hb : ks[j]? = some b) : lessS a b = true := by
  obtain ⟨g1, g2⟩ := List.getElem?_eq_some_iff.1 ha
  obtain ⟨f1, f2⟩ := List.getElem?_eq_some_iff.1 hb
  have := List.pairwise_iff_getElem.1 h i j g1 f1 hij
  rw [g2, f2] at this
  exact this
theorem PutI.push {key : ByteArray} {kid : TreeD} {ks : List ByteArray} {vs : List TreeD} {i : Nat} {k : ByteArray} {v : TreeD} (hs : SortK ks) (hk : ks[i]? = some k) (hv : vs[i]? = some v) {l : Bool} {K : List ByteArray} {V : List TreeD}
    (h1 : K.length = V.length) (h2 : K.length ≤ i + 1) (h2' : l = false → K.length ≤ i) (h3 : SortK K) (h4 : ∀ x ∈ K, x = key ∨ x ∈ ks) (h5 : ∀ x ∈ V, x = kid ∨ x ∈ vs) (h6 : ∀ x ∈ K, ∀ j k, i ≤ j → ks[j]? = some k → lessS x k = true) (h7 : l = false → ∀ x ∈ K, lessS x key = true) (h8 : l = false → lessS k key = true) :
    PutI key kid ks vs (i + 1) ⟨l, K ++ [k], V ++ [v]⟩ := by
  refine ⟨by simp [h1], by simp; omega, fun h => by have := h2' h; simp; omega, sort_push h3 (fun x hx => h6 x hx i k (Nat.le_refl _) hk), ?_, ?_, ?_, ?_⟩
  · intro x hx
    rcases List.mem_append.1 hx with hx | hx
    · exact h4 x hx
    · simp at hx; subst hx; exact .inr (List.mem_of_getElem? hk)
  · intro x hx
    rcases List.mem_append.1 hx with hx | hx
    · exact h5 x hx
    · simp at hx; subst hx; exact .inr (List.mem_of_getElem? hv)
  · intro x hx j y hj hy
    rcases List.mem_append.1 hx with hx | hx
    · exact h6 x hx j y (by omega) hy
    · simp at hx; subst hx; exact sort_at hs (by omega) hk hy
  · intro hl x hx
    rcases List.mem_append.1 hx with hx | hx
    · exact h7 hl x hx
    · simp at hx; subst hx; exact h8 hl
theorem PutI.step {key : ByteArray} {kid : TreeD} {ks : List ByteArray} {vs : List TreeD} {i : Nat} {k : ByteArray} {v : TreeD} (hs : SortK ks) (hk : ks[i]? = some k) (hv : vs[i]? = some v) {st : PutSt} (h : PutI key kid ks vs i st) : PutI key kid ks vs (i + 1) (putOne key kid st k v) := by
  obtain ⟨l, K, V⟩ := st
  obtain ⟨h1, h2, h2', h3, h4, h5, h6, h7⟩ := h
  unfold putOne
  dsimp only at *
  by_cases c : (!l && !lessS k key) = true
  · rw [if_pos c]
    simp at c
    obtain ⟨rfl, c⟩ := c
    have h2 := h2' rfl
    have h7 := h7 rfl
    have hmem : ∀ x ∈ K ++ [key], x = key ∨ x ∈ ks := fun x hx => by
      rcases List.mem_append.1 hx with hx | hx
      · exact h4 x hx
      · simp at hx; exact .inl hx
    have hmv : ∀ x ∈ V ++ [kid], x = kid ∨ x ∈ vs := fun x hx => by
      rcases List.mem_append.1 hx with hx | hx
      · exact h5 x hx
      · simp at hx; exact .inl hx
    by_cases e : k = key
    · rw [if_pos e]
      subst e
      refine ⟨by simp [h1], by simp; omega, fun h => ((by cases h)), sort_push h3 h7, hmem, hmv, ?_, fun h => ((by cases h))⟩
      intro x hx j y hj hy
      rcases List.mem_append.1 hx with hx | hx
      · exact h6 x hx j y (by omega) hy
      · simp at hx; subst hx; exact sort_at hs (by omega) hk hy
    · rw [if_neg e]
      have hlt : lessS key k = true := lessS_other c e
      refine PutI.push hs hk hv (by simp [h1]) (by simp; omega) (fun h => (by cases h)) (sort_push h3 h7) hmem hmv ?_ (fun h => (by cases h)) (fun h => (by cases h))
      intro x hx j y hj hy
      rcases List.mem_append.1 hx with hx | hx
      · exact h6 x hx j y hj hy
      · simp at hx
        subst hx
        rcases Nat.eq_or_lt_of_le hj with rfl | hj
        · rw [hk] at hy; cases hy; exact hlt
        · exact lessS_trans3 hlt (sort_at hs hj hk hy)
  · rw [if_neg c]
    by_cases e : k = key
    · rw [if_pos e]
      exact ⟨h1, (show K.length ≤ i + 1 + 1 by omega), fun h => (show K.length ≤ i + 1 by have := h2' h; omega), h3, h4, h5, fun x hx j y hj hy => h6 x hx j y (by omega) hy, h7⟩
    · rw [if_neg e]
      refine PutI.push hs hk hv h1 h2 h2' h3 h4 h5 h6 h7 (fun hl => ?_)
      subst hl
      simpa using c
theorem putS_inv {key : ByteArray} {kid : TreeD} {ks : List ByteArray} {vs : List TreeD} (hs : SortK ks) (hl : ks.length = vs.length) : ∀ i, i ≤ ks.length → PutI key kid ks vs i (putS key kid ks vs i)
  | 0, _ => ⟨rfl, Nat.zero_le _, fun _ => Nat.le_refl _, List.Pairwise.nil, fun x hx => ((by cases hx)), fun x hx => ((by cases hx)), fun x hx => ((by cases hx)), fun _ x hx => ((by cases hx))⟩
  | i + 1, hi => by
    obtain ⟨k, hk⟩ := exists_at (show i < ks.length by omega)
    obtain ⟨v, hv⟩ := exists_at (show i < vs.length by omega)
    rw [putS_next hk hv]
    exact (putS_inv hs hl i (by omega)).step hs hk hv
structure Maps (key : ByteArray) (kid : TreeD) (ks : List ByteArray) (vs : List TreeD) (K : List ByteArray) (V : List TreeD) : Prop where
  len : K.length = V.length
  cnt : K.length ≤ ks.length + 1
  sort : SortK K
  mem : ∀ x ∈ K, x = key ∨ x ∈ ks
  memv : ∀ x ∈ V, x = kid ∨ x ∈ vs
theorem putE_maps {key : ByteArray} {kid : TreeD} {ks : List ByteArray} {vs : List TreeD} {st : PutSt} (h : PutI key kid ks vs ks.length st) : Maps key kid ks vs (putE key kid st).ks (putE key kid st).vs := by
  obtain ⟨l, K, V⟩ := st
  obtain ⟨h1, h2, h2', h3, h4, h5, h6, h7⟩ := h
  unfold putE
  dsimp only at *
  cases l with
  | true => exact ⟨h1, h2, h3, h4, h5⟩
  | false =>
    have := h2' rfl
    refine ⟨by simp [h1], by simp; omega, sort_push h3 (h7 rfl), fun x hx => ?_, fun x hx => ?_⟩
    · rcases List.mem_append.1 hx with hx | hx
      · exact h4 x hx
      · simp at hx; exact .inl hx
    · rcases List.mem_append.1 hx with hx | hx
      · exact h5 x hx
      · simp at hx; exact .inl hx
theorem putD_maps {d : TreeD} (key : ByteArray) (kid : TreeD) (hs : SortK d.keys) (hl : d.keys.length = d.kids.length) : ∃ K V, putD d key kid = tMap K V ∧ Maps key kid d.keys d.kids K V :=
  ⟨_, _, rfl, putE_maps (putS_inv hs hl _ (Nat.le_refl _))⟩
def szB : Nat → Nat
  | 0 => 0
  | k + 1 => 1 + 4 * szB k
def syB : Nat → Nat
  | 0 => 0
  | 1 => 122
  | k + 2 => 2 + 4 * (124 + syB (k + 1))
def ceB : Nat → Nat
  | 0 => 0
  | k + 1 => 120 + 4 * ceB k
theorem word_none : WordOk ⟨#[]⟩ := word_low (by decide) (by decide)
/-- Small words at every place, few kids at every node. -/
def WordT : Nat → TreeD → Prop
  | 0, _ => False
  | k + 1, d => WordOk d.text ∧ (∀ x ∈ d.keys, WordOk x) ∧ d.kids.length ≤ 4 ∧ ∀ t ∈ d.kids, WordT k t
structure Drawn (k : Nat) (d : TreeD) : Prop where
  shape : shapeT k d = true
  num : numT k d
  size : sizeT k d ≤ szB k
  say : (sayL k d).length ≤ syB k
  cells : nTree k d ≤ ceB k
  word : WordT k d
theorem depth_le : ∀ (k : Nat) (d : TreeD), depthT k d ≤ k
  | 0, _ => Nat.le_refl _
  | k + 1, d => by
    rw [depthT_succ]
    have := mxL_le (f := depthT k) (b := k) (l := d.kids) (fun x _ => depth_le k x)
    omega
theorem Drawn.ok {k : Nat} {d : TreeD} (h : Drawn k d) (hk : k ≤ 4) : okT k d = true := by
  have h1 := depth_le k d
  have h2 := h.size
  have h3 : szB k ≤ szB 4 := by
    rcases (show k = 0 ∨ k = 1 ∨ k = 2 ∨ k = 3 ∨ k = 4 by omega) with rfl | rfl | rfl | rfl | rfl <;> decide
  have h4 : szB 4 = 85 := rfl
  rw [okT_def, h.shape, decide_eq_true (by omega), decide_eq_true (by omega)]
  rfl
theorem szL_leB {D : Type} {f : D → Nat} {B : Nat} : ∀ {l : List D}, (∀ x ∈ l, f x ≤ B) → szL f l ≤ l.length * B
  | [], _ => Nat.zero_le _
  | x :: l, h => by
    have h1 := h x (by simp)
    have h2 := szL_leB (f := f) (B := B) (l := l) (fun y hy => h y (by simp [hy]))
    simp only [szL, List.length_cons, Nat.add_mul, Nat.one_mul]
    omega
theorem syB_pos (k : Nat) : 122 ≤ syB (k + 1) := by
  cases k with
  | zero => exact Nat.le_refl _
  | succ k => unfold syB; omega
theorem drawn_leaf {k : Nat} {t : TreeD} (h1 : badH t = false) (h2 : WordOk t.text) (h3 : lensOk t = true) (h4 : t.keys = []) (h5 : t.kids = []) (h6 : I64 t.num) (h7 : (sayL (k + 1) t).length ≤ 122) : Drawn (k + 1) t := by
  have h := leaf_ok (N := k) (d := 1) (by omega) h1 h2.str h3 h4 h5 h6
  refine ⟨h.1.shape, h.1.num, ?_, Nat.le_trans h7 (syB_pos k), ?_, h2, fun x hx => (by rw [h4] at hx; cases hx), by rw [h5]; exact Nat.zero_le _, fun x hx => (by rw [h5] at hx; cases hx)⟩
  · rw [h.2]; unfold szB; omega
  · rw [nTree_succ, h4, h5]
    have := h2.2
    simp only [nL, szL, List.length_nil]
    unfold ceB
    omega
theorem mul4 {m B : Nat} (h : m ≤ 4) : m * B ≤ 4 * B := Nat.mul_le_mul_right B h
theorem drawn_list {k : Nat} {l : List TreeD} (hl : l.length ≤ 4) (h : ∀ t ∈ l, Drawn (k + 1) t) : Drawn (k + 2) (tList l) := by
  have hs : badH (tList l) = false := by unfold badH tList inB; simp
  have m1 := szL_leB (f := sizeT (k + 1)) (B := szB (k + 1)) (l := l) (fun x hx => (h x hx).size)
  have m2 := szL_leB (f := nTree (k + 1)) (B := ceB (k + 1)) (l := l) (fun x hx => (h x hx).cells)
  have m3 := szL_leB (f := fun t => (sayL (k + 1) t).length + 1) (B := syB (k + 1) + 1) (l := l) (fun x hx => by have := (h x hx).say; omega)
  have q1 := mul4 (B := szB (k + 1)) hl
  have q2 := mul4 (B := ceB (k + 1)) hl
  have q3 := mul4 (B := syB (k + 1) + 1) hl
  refine ⟨shape_mk hs strB_empty rfl (fun i hi => by simp [tList] at hi) (fun t ht => (h t ht).shape), ⟨(show I64 0 from by unfold I64; decide), fun t ht => (h t ht).num⟩, ?_, ?_, ?_, word_none, fun x hx => (by cases hx), hl, fun t ht => (h t ht).word⟩
  · rw [sizeT_succ]
    show 1 + szL (sizeT (k + 1)) l ≤ 1 + 4 * szB (k + 1)
    omega
  · by_cases hne : l = []
    · subst hne
      show 2 ≤ 2 + 4 * (124 + syB (k + 1))
      omega
    · rw [list_len hne]
      show _ ≤ 2 + 4 * (124 + syB (k + 1))
      omega
  · rw [nTree_succ]
    show (⟨#[]⟩ : ByteArray).size + nL ByteArray.size [] + nL (nTree (k + 1)) l ≤ 120 + 4 * ceB (k + 1)
    have e0 : (⟨#[]⟩ : ByteArray).size = 0 := rfl
    simp only [nL, szL, List.length_nil]
    omega
/-- A map that grows. -/
structure MapD (k m : Nat) (ks : List ByteArray) (l : List TreeD) : Prop where
  len : ks.length = l.length
  cnt : ks.length ≤ m
  sort : SortK ks
  word : ∀ x ∈ ks, WordOk x
  kid : ∀ t ∈ l, Drawn k t
theorem MapD.nil (k : Nat) : MapD k 0 [] [] := ⟨rfl, Nat.le_refl _, List.Pairwise.nil, fun x hx => ((by cases hx)), fun x hx => ((by cases hx))⟩
theorem drawn_map {k : Nat} {ks : List ByteArray} {l : List TreeD} (h : MapD (k + 1) 4 ks l) : Drawn (k + 2) (tMap ks l) := by
  obtain ⟨hlen, hcnt, hsort, hword, hkid⟩ := h
  have hl : l.length ≤ 4 := by omega
  have hs : badH (tMap ks l) = false := by unfold badH tMap inB; simp
  have m1 := szL_leB (f := sizeT (k + 1)) (B := szB (k + 1)) (l := l) (fun x hx => (hkid x hx).size)
  have m2 := szL_leB (f := nTree (k + 1)) (B := ceB (k + 1)) (l := l) (fun x hx => (hkid x hx).cells)
  have m3 := szL_leB (f := fun t => (sayL (k + 1) t).length + 1) (B := syB (k + 1) + 1) (l := l) (fun x hx => by have := (hkid x hx).say; omega)
  have m4 := szL_leB (f := qlen) (B := 123) (l := ks) (fun x hx => by have := (hword x hx).quote; unfold qlen; omega)
  have m5 := szL_leB (f := ByteArray.size) (B := 20) (l := ks) (fun x hx => (hword x hx).2)
  have q1 := mul4 (B := szB (k + 1)) hl
  have q2 := mul4 (B := ceB (k + 1)) hl
  have q3 := mul4 (B := syB (k + 1) + 1) hl
  refine ⟨shape_mk hs strB_empty (by unfold lensOk tMap; simp [hlen]) (keys_ok hsort (fun x hx => (hword x hx).str)) (fun t ht => (hkid t ht).shape), ⟨(show I64 0 from by unfold I64; decide), fun t ht => (hkid t ht).num⟩, ?_, ?_, ?_, word_none, hword, hl, fun t ht => (hkid t ht).word⟩
  · rw [sizeT_succ]
    show 1 + szL (sizeT (k + 1)) l ≤ 1 + 4 * szB (k + 1)
    omega
  · by_cases hne : l = []
    · subst hne
      show 2 ≤ 2 + 4 * (124 + syB (k + 1))
      omega
    · rw [map_len hne hlen]
      show _ ≤ 2 + 4 * (124 + syB (k + 1))
      omega
  · rw [nTree_succ]
    show (⟨#[]⟩ : ByteArray).size + nL ByteArray.size ks + nL (nTree (k + 1)) l ≤ 120 + 4 * ceB (k + 1)
    have e0 : (⟨#[]⟩ : ByteArray).size = 0 := rfl
    simp only [nL]
    omega
theorem MapD.more {k m m' : Nat} {ks : List ByteArray} {l : List TreeD} (h : MapD k m ks l) (hm : m ≤ m') : MapD k m' ks l := ⟨h.len, Nat.le_trans h.cnt hm, h.sort, h.word, h.kid⟩
theorem MapD.put {k m n : Nat} {ks : List ByteArray} {l : List TreeD} {key : ByteArray} {kid : TreeD} (h : MapD k m ks l) (hk : WordOk key) (ht : Drawn k kid) : ∃ K V, putT n (tMap ks l) key kid = tMap K V ∧ MapD k (m + 1) K V := by
  unfold putT
  by_cases c : putB n (tMap ks l) key kid = true
  · rw [if_pos c]
    obtain ⟨K, V, h1, h2⟩ := putD_maps (d := tMap ks l) key kid h.sort h.len
    refine ⟨K, V, h1, h2.len, Nat.le_trans h2.cnt (Nat.add_le_add_right h.cnt 1), h2.sort, fun x hx => ?_, fun x hx => ?_⟩
    · rcases h2.mem x hx with rfl | hx
      · exact hk
      · exact h.word x hx
    · rcases h2.memv x hx with rfl | hx
      · exact ht
      · exact h.kid x hx
  · rw [if_neg c]
    exact ⟨ks, l, rfl, h.more (Nat.le_add_right _ _)⟩
/-- What is drawn fits. -/
theorem Drawn.fits {k : Nat} {d : TreeD} (h : Drawn k d) (hk : k ≤ 4) : nTree k d ≤ 1048576 ∧ sizeT k d ≤ 1073741824 ∧ (sayL k d).length ≤ 18266 := by
  have h2 := h.size
  have h3 := h.cells
  have h4 := h.say
  rcases (show k = 0 ∨ k = 1 ∨ k = 2 ∨ k = 3 ∨ k = 4 by omega) with rfl | rfl | rfl | rfl | rfl
  · exact ⟨Nat.le_trans h3 (by decide), Nat.le_trans h2 (by decide), Nat.le_trans h4 (by decide)⟩
  · exact ⟨Nat.le_trans h3 (by decide), Nat.le_trans h2 (by decide), Nat.le_trans h4 (by decide)⟩
  · exact ⟨Nat.le_trans h3 (by decide), Nat.le_trans h2 (by decide), Nat.le_trans h4 (by decide)⟩
  · exact ⟨Nat.le_trans h3 (by decide), Nat.le_trans h2 (by decide), Nat.le_trans h4 (by decide)⟩
  · exact ⟨Nat.le_trans h3 (by decide), Nat.le_trans h2 (by decide), Nat.le_trans h4 (by decide)⟩
end Go.Proofs.YtffelpdefjkeaaaGreatDoor
namespace Go.Proofs.YtffelpdefjkeaaaGreatDoor
open Go.RowKit Go.Lib
theorem costX_num {x : SignD} (h : x.kind = 8) : costX x = (decS x.num).data.toList.length := by unfold costX; rw [if_neg (by omega), if_pos h]
theorem costX_text {x : SignD} (h : x.kind = 7) : costX x = (quoteB x.text).data.toList.length := by unfold costX; rw [if_pos h]
set_option maxHeartbeats 1000000 in
theorem readJ_ok (L : List SignD) (E : Int) (hG : ∀ x ∈ L, goodX x) : ∀ (n : Nat) (j : Job) (p m : Nat) (t : TreeD) (q m' : Nat), readJ L E n j p m = .good t q m' → m ≤ 300 → JobOk L j p m t q m'
  | 0, j, p, m, t, q, m', h, _ => by rw [readJ.eq_def] at h; cases j <;> cases h
  | n + 1, .value d, p, m, t, q, m', h, hm => by
    rw [readJ_value] at h
    by_cases c1 : ¬ (kindAt L p = 1 ∨ kindAt L p = 3 ∨ 7 ≤ kindAt L p)
    · rw [if_pos c1] at h; cases h
    rw [if_neg c1] at h
    by_cases c2 : 8 < d
    · rw [if_pos c2] at h; cases h
    rw [if_neg c2] at h
    by_cases c3 : 300 ≤ m
    · rw [if_pos c3] at h; cases h
    rw [if_neg c3] at h
    rcases hx : L[p]? with _ | x
    · rw [hx] at h; cases h
    rw [hx] at h
    simp only at h
    have hC := CL_succ hx
    have hg := hG x (List.mem_of_getElem? hx)
    intro N hN
    obtain ⟨N, rfl⟩ : ∃ M, N = M + 1 := ⟨N - 1, by omega⟩
    by_cases c4 : x.kind = 7
    · rw [if_pos c4] at h
      by_cases c5 : 400 < x.text.size
      · rw [if_pos c5] at h; cases h
      rw [if_neg c5] at h
      cases h
      have hst : strB x.text = true := by unfold strB; rw [hg.1 c4, decide_eq_true (by omega)]; rfl
      obtain ⟨h1, h2⟩ := leaf_ok (N := N) (d := d) (t := tText x.text) (by omega) (by unfold badH tText inB; simp) hst (by unfold lensOk tText; simp) rfl rfl i64_zero
      refine ⟨h1, by rw [h2], by omega, ?_⟩
      rw [hC, costX_text c4]
      exact Nat.le_refl _
    rw [if_neg c4] at h
    by_cases c6 : x.kind = 8
    · rw [if_pos c6] at h
      cases h
      obtain ⟨h1, h2⟩ := leaf_ok (N := N) (d := d) (t := tInt x.num) (by omega) (by unfold badH tInt inB; simp) strB_empty (by unfold lensOk tInt; simp) rfl rfl hg.2.1
      refine ⟨h1, by rw [h2], by omega, ?_⟩
      rw [hC, costX_num c6]
      exact Nat.le_refl _
    rw [if_neg c6] at h
    by_cases c7 : x.kind = 11
    · rw [if_pos c7] at h
      cases h
      obtain ⟨h1, h2⟩ := leaf_ok (N := N) (d := d) (t := tNull) (by omega) (by unfold badH tNull inB; simp) strB_empty (by unfold lensOk tNull; simp) rfl rfl i64_zero
      refine ⟨h1, by rw [h2], by omega, ?_⟩
      have hc : costX x = 4 := by unfold costX; rw [if_neg c4, if_neg c6, if_neg (by omega), if_pos (.inr c7)]
      rw [hC, hc]
      exact Nat.le_refl _
    rw [if_neg c7] at h
    by_cases c8 : x.kind = 3
    · rw [if_pos c8] at h
      have hk3 : kindAt L p = 3 := by unfold kindAt; rw [hx]; exact c8
      have hC3 := CL_mark hk3 (by omega)
      by_cases c9 : kindAt L (p + 1) = 4
      · rw [if_pos c9] at h
        cases h
        obtain ⟨h1, h2⟩ := leaf_ok (N := N) (d := d) (t := tList []) (by omega) (by unfold badH tList inB; simp) strB_empty (by unfold lensOk tList; simp) rfl rfl i64_zero
        refine ⟨h1, by rw [h2], by omega, ?_⟩
        have hC4 := CL_mark c9 (by omega)
        rw [show p + 2 = p + 1 + 1 from rfl, hC4, hC3]
        exact Nat.le_refl _
      · rw [if_neg c9] at h
        obtain ⟨more, g1, g2, g3, g4, g5, g6⟩ := readJ_ok L E hG n _ _ _ _ _ _ h (by omega) N (by omega)
        rw [List.nil_append] at g2
        subst g2
        refine ⟨list_ok (by omega) g3, ?_, g5, ?_⟩
        · rw [sizeT_succ]
          show m' = m + (1 + szL (sizeT N) more)
          omega
        · rw [list_len g1]
          omega
    rw [if_neg c8] at h
    by_cases c10 : x.kind = 1
    · rw [if_pos c10] at h
      have hk1 : kindAt L p = 1 := by unfold kindAt; rw [hx]; exact c10
      have hC1 := CL_mark hk1 (by omega)
      by_cases c9 : kindAt L (p + 1) = 2
      · rw [if_pos c9] at h
        cases h
        obtain ⟨h1, h2⟩ := leaf_ok (N := N) (d := d) (t := tMap [] []) (by omega) (by unfold badH tMap inB; simp) strB_empty (by unfold lensOk tMap; simp) rfl rfl i64_zero
        refine ⟨h1, by rw [h2], by omega, ?_⟩
        have hC4 := CL_mark c9 (by omega)
        rw [show p + 2 = p + 1 + 1 from rfl, hC4, hC1]
        exact Nat.le_refl _
      · rw [if_neg c9] at h
        obtain ⟨ks, l, g1, g2, g3, g4, g5, g6, g7, g8, g9⟩ := readJ_ok L E hG n _ _ _ _ _ _ h (by omega) N (by omega) rfl List.Pairwise.nil (fun k hk => by cases hk) (fun k hk => by cases hk)
        subst g1
        simp only [szL] at g7 g9
        refine ⟨map_ok (by omega) g2 g4 g5 g6, ?_, g8, ?_⟩
        · rw [sizeT_succ]
          show m' = m + (1 + szL (sizeT N) l)
          omega
        · rw [map_len g3 g2]
          omega
    rw [if_neg c10] at h
    cases h
    have hk : 7 ≤ x.kind := by
      have : kindAt L p = x.kind := by unfold kindAt; rw [hx]
      omega
    obtain ⟨h1, h2⟩ := leaf_ok (N := N) (d := d) (t := tFlag (x.kind == 9)) (by omega) (by unfold badH tFlag inB; simp) strB_empty (by unfold lensOk tFlag; simp) rfl rfl i64_zero
    refine ⟨h1, by rw [h2], by omega, ?_⟩
    have hk11 := hg.2.2
    by_cases c11 : x.kind = 9
    · have hc : costX x = 4 := by unfold costX; rw [if_neg c4, if_neg c6, if_neg (by omega), if_pos (.inl c11)]
      rw [hC, hc, c11]
      exact Nat.le_refl _
    · have c12 : x.kind = 10 := by omega
      have hc : costX x = 5 := by unfold costX; rw [if_neg c4, if_neg c6, if_pos c12]
      rw [hC, hc, c12]
      exact Nat.le_refl _
  | n + 1, .list d acc, p, m, t, q, m', h, hm => by
    rw [readJ_list] at h
    rcases hr : readJ L E n (.value (d + 1)) p m with f | ⟨u, q1, m1⟩
    · rw [hr] at h; cases h
    rw [hr] at h
    simp only at h
    have hv := readJ_ok L E hG n _ _ _ _ _ _ hr hm
    intro N hN
    obtain ⟨v1, v2, v3, v4⟩ := hv N (by omega)
    by_cases c1 : kindAt L q1 = 4
    · rw [if_pos c1] at h
      cases h
      have hC := CL_mark c1 (by omega)
      refine ⟨[u], by simp, rfl, fun x hx => by simp at hx; rw [hx]; exact v1, by simp [szL]; omega, v3, ?_⟩
      simp only [szL]
      omega
    · rw [if_neg c1] at h
      by_cases c2 : kindAt L q1 = 6
      · rw [if_pos c2] at h
        have hC := CL_mark c2 (by omega)
        obtain ⟨more, g1, g2, g3, g4, g5, g6⟩ := readJ_ok L E hG n _ _ _ _ _ _ h v3 N hN
        refine ⟨u :: more, by simp, by rw [g2, List.append_assoc]; rfl, fun x hx => ?_, ?_, g5, ?_⟩
        · rcases List.mem_cons.1 hx with rfl | hx
          · exact v1
          · exact g3 x hx
        · simp only [szL]; omega
        · simp only [szL]; omega
      · rw [if_neg c2] at h; cases h
  | n + 1, .pairs d ks acc, p, m, t, q, m', h, hm => by
    rw [readJ_pairs] at h
    rcases hx : L[p]? with _ | x
    · rw [hx] at h; cases h
    rw [hx] at h
    simp only at h
    by_cases c1 : x.kind ≠ 7
    · rw [if_pos c1] at h; cases h
    rw [if_neg c1] at h
    by_cases c2 : 400 < x.text.size
    · rw [if_pos c2] at h; cases h
    rw [if_neg c2] at h
    by_cases c3 : ks.contains x.text = true
    · rw [if_pos c3] at h; cases h
    rw [if_neg c3] at h
    by_cases c4 : kindAt L (p + 1) ≠ 5
    · rw [if_pos c4] at h; cases h
    rw [if_neg c4] at h
    rcases hr : readJ L E n (.value (d + 1)) (p + 2) m with f | ⟨u, q1, m1⟩
    · rw [hr] at h; cases h
    rw [hr] at h
    simp only at h
    have hv := readJ_ok L E hG n _ _ _ _ _ _ hr hm
    have c7 : x.kind = 7 := by omega
    have hg := hG x (List.mem_of_getElem? hx)
    have hst : strB x.text = true := by unfold strB; rw [hg.1 c7, decide_eq_true (by omega)]; rfl
    have hC1 := CL_succ hx
    rw [costX_text c7] at hC1
    have hC2 := CL_mark (p := p + 1) (L := L) (k := 5) (by omega) (by omega)
    have hql : qlen x.text = (quoteB x.text).data.toList.length + 1 := rfl
    have e2 : p + 2 = p + 1 + 1 := rfl
    intro N hN hlen hso hks hacc
    obtain ⟨v1, v2, v3, v4⟩ := hv N (by omega)
    rw [e2] at v4
    have hle := posK_le ks x.text
    have hno : hasS ks x.text = false := by rw [← contains_hasS]; simpa using c3
    have i1 : (insL ks (posK ks x.text) x.text).length = (insL acc (posK ks x.text) u).length := by rw [ins_len hle, ins_len (by omega), hlen]
    have i2 := ins_sorted hso hno
    have i3 : ∀ k ∈ insL ks (posK ks x.text) x.text, strB k = true := fun k hk => by
      unfold insL at hk
      rcases List.mem_append.1 hk with hk | hk
      · exact hks k (List.mem_of_mem_take hk)
      · rcases List.mem_cons.1 hk with rfl | hk
        · exact hst
        · exact hks k (List.mem_of_mem_drop hk)
    have i4 : ∀ y ∈ insL acc (posK ks x.text) u, VOk N (d + 1) y := fun y hy => by
      unfold insL at hy
      rcases List.mem_append.1 hy with hy | hy
      · exact hacc y (List.mem_of_mem_take hy)
      · rcases List.mem_cons.1 hy with rfl | hy
        · exact v1
        · exact hacc y (List.mem_of_mem_drop hy)
    have z1 := szL_ins qlen ks (posK ks x.text) x.text
    have z2 := szL_ins (sizeT N) acc (posK ks x.text) u
    have z3 := szL_ins (fun x => (sayL N x).length + 1) acc (posK ks x.text) u
    by_cases c5 : kindAt L q1 = 2
    · rw [if_pos c5] at h
      cases h
      have hC := CL_mark c5 (by omega)
      refine ⟨_, _, rfl, i1, ?_, i2, i3, i4, by omega, v3, by omega⟩
      intro e
      rw [ins_len (by omega : posK ks x.text ≤ acc.length)] at i1
      have := congrArg List.length e
      rw [ins_len (by omega : posK ks x.text ≤ acc.length)] at this
      simp at this
    · rw [if_neg c5] at h
      by_cases c6 : kindAt L q1 = 6
      · rw [if_pos c6] at h
        have hC := CL_mark c6 (by omega)
        obtain ⟨ks', l', g1, g2, g3, g4, g5, g6, g7, g8, g9⟩ := readJ_ok L E hG n _ _ _ _ _ _ h v3 N hN i1 i2 i3 i4
        exact ⟨ks', l', g1, g2, g3, g4, g5, g6, by omega, g8, by omega⟩
      · rw [if_neg c6] at h; cases h
/-- A text that is read tells a right tree, whose own text is no longer. -/
theorem readB_ok {s : ByteArray} (h : (readB s).1.code = 0) : okT 10 (readB s).2 = true ∧ numT 10 (readB s).2 ∧ (sayL 10 (readB s).2).length ≤ s.size ∧ s.size ≤ 20000 := by
  by_cases hf : (signsF s).2.code = 0
  · obtain ⟨hG, hc, hs⟩ := signsF_cost hf
    have h2 := readJ_good (signsF s).1 s.size (2 * (signsF s).1.length + 4) (.value 1) 0 0 (Nat.zero_le _) (Nat.zero_le _) (by unfold needJ; simp only; omega)
    rcases hq : readJ (signsF s).1 s.size (2 * (signsF s).1.length + 4) (.value 1) 0 0 with f | ⟨t, p, m⟩
    · rw [hq] at h2
      rw [readB_bad hf hq] at h
      exact absurd h h2
    · by_cases hp : p < (signsF s).1.length
      · rw [readB_more hf hq hp] at h
        exact absurd (show (4 : Int) = 0 from h) (by decide)
      · rw [readB_good hf hq hp]
        obtain ⟨v1, v2, v3, v4⟩ := readJ_ok _ _ hG _ _ _ _ _ _ _ hq (by omega) 10 rfl
        have hdeep := v1.deep
        refine ⟨?_, v1.num, ?_, hs⟩
        · unfold okT
          simp only
          rw [v1.shape, decide_eq_true (by omega), decide_eq_true (by omega)]
          rfl
        · have h3 : CL (signsF s).1 p ≤ szL costX (signsF s).1 := szL_take_le costX _ p
          have h4 : CL (signsF s).1 0 = 0 := rfl
          simp only
          omega
  · rw [readB_sign hf] at h
    exact absurd h hf
end Go.Proofs.YtffelpdefjkeaaaGreatDoor
namespace Go.Proofs.YtffelpdefjkeaaaGreatDoor
open Go.RowKit Go.Lib
/-- The reader's box b: the signs L, at sign p, the text's end E, m values counted, the fault f. -/
def RdAtS (L : List SignD) (E : Int) (b : Nat) (p m : Nat) (f : Flt) (w : World) : Prop :=
  ∃ (A : Option Addr) (c : Nat), w.heap[b]? = some (.cells (rdC A L.length c p E m f) 50 (0, 0)) ∧ SignsE 0 w L (.slice A L.length c) ∧ ∀ g, (Value.slice A L.length c).ownBlock = some g → g < b
theorem RdAtS.lt {L : List SignD} {E : Int} {b p m : Nat} {f : Flt} {w : World} (h : RdAtS L E b p m f w) : b < w.heap.size := by
  obtain ⟨A, c, h1, -, -⟩ := h
  exact row_lt h1
theorem RdAtS.below {L : List SignD} {E : Int} {b p m : Nat} {f : Flt} {w w' : World} (h : RdAtS L E b p m f w) (hb : Below w.heap.size w w') : RdAtS L E b p m f w' := by
  obtain ⟨A, c, h1, h2, h3⟩ := h
  exact ⟨A, c, (hb.block b (row_lt h1)).trans h1, h2.below hb, h3⟩
theorem RdAtS.poke {L : List SignD} {E : Int} {b p m p' m' : Nat} {f f' : Flt} {w w' : World} (h : RdAtS L E b p m f w) (hF : Aside (fun q => q = b) w w') (hset : ∀ A c, w.heap[b]? = some (.cells (rdC A L.length c p E m f) 50 (0, 0)) → w'.heap[b]? = some (.cells (rdC A L.length c p' E m' f') 50 (0, 0))) : RdAtS L E b p' m' f' w' := by
  obtain ⟨A, c, h1, h2, h3⟩ := h
  exact ⟨A, c, hset A c h1, h2.carry (fun q hq => hF.block q (World.ownsRow.lt h2 q hq).2 (fun e => absurd (h3 q hq) (by omega))), h3⟩
theorem RdAtS.past {L : List SignD} {E : Int} {b p m : Nat} {f : Flt} {w w' : World} {S : Nat → Prop} (h : RdAtS L E b p m f w) (hF : Aside S w w') (hS : ∀ q, S q → b < q) : RdAtS L E b p m f w' := by
  obtain ⟨A, c, h1, h2, h3⟩ := h
  exact ⟨A, c, (hF.block b (row_lt h1) (fun h => absurd (hS b h) (Nat.lt_irrefl _))).trans h1, h2.carry (fun q hq => hF.block q (World.ownsRow.lt h2 q hq).2 (fun hs => by have := hS q hs; have := h3 q hq; omega)), h3⟩
end Go.Proofs.YtffelpdefjkeaaaGreatDoor
namespace Go.Proofs.YtffelpdefjkeaaaGreatDoor
open Go.RowKit Go.Lib
theorem c_rs_TextTree (t : ByteArray) (w : World) : Calls Tryz.prog 61 #[.string t] w fun e w' => e = .returned (.agg #[.int .i64 4, .bool false, .int .i64 0, .string t, .slice none 0 0, .slice none 0 0]) ∧ Below w.heap.size w w' := by
  go_enter Tryz.func61, Tryz.ntmps61
  go_wp2_with fail
  exact bodyPost_ret (v := .agg #[.int .i64 4, .bool false, .int .i64 0, .string t, .slice none 0 0, .slice none 0 0]) (by simp only [results, Tryz.results61]; go_simp) rfl ⟨rfl, bel⟩
theorem c_rs_IntTree (x : Int) (w : World) : Calls Tryz.prog 60 #[.int .i64 x] w fun e w' => e = .returned (.agg #[.int .i64 3, .bool false, .int .i64 x, .string ⟨#[]⟩, .slice none 0 0, .slice none 0 0]) ∧ Below w.heap.size w w' := by
  go_enter Tryz.func60, Tryz.ntmps60
  go_wp2_with fail
  exact bodyPost_ret (v := .agg #[.int .i64 3, .bool false, .int .i64 x, .string ⟨#[]⟩, .slice none 0 0, .slice none 0 0]) (by simp only [results, Tryz.results60]; go_simp) rfl ⟨rfl, bel⟩
end Go.Proofs.YtffelpdefjkeaaaGreatDoor
namespace Go.Proofs.YtffelpdefjkeaaaGreatDoor
open Go.RowKit Go.Lib
theorem RdAtS.meas {L : List SignD} {E : Int} {b p m : Nat} {f : Flt} {w : World} (h : RdAtS L E b p m f w) (N : Nat) : rdM N b w = if f.code = 0 then N + 1 - p else 0 := by
  obtain ⟨A, c, h1, -, -⟩ := h
  unfold rdC at h1
  obtain ⟨a0, a1, a2, a3, a4, a5, a6, af⟩ := row7r h1
  unfold rdM
  rw [a4, a1]
  simp
end Go.Proofs.YtffelpdefjkeaaaGreatDoor
namespace Go.Proofs.YtffelpdefjkeaaaGreatDoor
open Go.RowKit
def T_l08 (n : Nat) : Prop := ∀ (d : TreeD) (cs : List Value) (w : World) (lo : Nat) (_ : C_Tree n lo w.heap.size w d cs) (_ : nTree n d ≤ 1048576),
    Calls Tryz.prog 112 #[.agg cs.toArray] w fun e w' => ∃ cs', e = .returned (.agg cs'.toArray) ∧ OwnT n (fun b => w.heap.size ≤ b ∧ b < w'.heap.size) w' d cs' ∧ Below w.heap.size w w'
set_option maxHeartbeats 2000000 in
set_option maxRecDepth 10000 in
theorem of_l08 (n : Nat) (ih : T_l08 n) : T_l08 (n + 1) := by
  intro d cs w lo h hn
  obtain ⟨i0, hi, hz0, hz1, hz2⟩ := info_parts (show (Tryz.prog.info? 27).map (fun i => (i.zero, i.size, i.bytes)) = some (some (.agg #[.int .i64 0, .bool false, .int .i64 0, .string ⟨#[]⟩, .slice none 0 0, .slice none 0 0]), 6, 88) from by kernel_rfl)
  obtain ⟨j0, gi, gz0, gz1, gz2⟩ := info_parts (show (Tryz.prog.info? 9).map (fun i => (i.zero, i.size, i.bytes)) = some (some (.string ⟨#[]⟩), 1, 16) from by kernel_rfl)
  obtain ⟨v4, v5, rfl, a0, a2, a3, a4, a5⟩ := h.out
  obtain ⟨A4, c4, rfl⟩ := a4.form
  obtain ⟨A5, c5, rfl, hlc, hcc, hA⟩ := a5
  rw [nTree_succ] at hn
  have m4 : d.keys.length ≤ 1048576 := by have := nL_def ByteArray.size d.keys; omega
  have m5 : d.kids.length ≤ 1048576 := by have := nL_def (nTree n) d.kids; omega
  go_enter Tryz.func112, Tryz.ntmps112
  go_wp2_with (at_builtin; refine wpList_append_strs rfl _ _ 24 rfl (w.heap.size + 3) 9 j0 (.string ⟨#[]⟩) 16 Tryz.underlying24 gi gz0 gz1 gz2 rfl _ 0 [] rfl (own_empty (by simp) (by simp)) d.keys A4 c4 lo w.heap.size rfl (Sl_Str.keep a4 (by repeat (first | (with_reducible exact Same.refl _ _ _) | ((with_reducible refine same_setCell ?_ ?_); focus (simp; (try omega))) | ((with_reducible refine same_alloc ?_ ?_); focus (simp; (try omega))) | (with_reducible refine same_drewN ?_ _) | ((with_reducible (apply same_step; assumption)); focus (simp; (try omega))))) (Nat.le_refl _) (Nat.le_refl _)) (by omega) (by omega) (by simp) ?_)
  intro v' w1 hown hgrow hat
  have hgs : GrowS (w.heap.size + 3) w1.heap.size w1 d.keys v' := ⟨hown, fun g hg => (hown.lt g hg).2, size_strs a4⟩
  obtain ⟨B4, b4, rfl⟩ := hgs.form
  have hA1 : w1.heap[w.heap.size]? = some (.cells #[.int .i64 d.kind, .bool d.flag, .int .i64 d.num, .string d.text, .slice A4 d.keys.length c4, .slice A5 d.kids.length c5] 27 (0, 0)) := (hgrow.block w.heap.size (by simp; try omega) (by simp [Value.ownBlock]; try omega)).trans ((Below.heap_alloc _ _ _ (by simp; try omega)).trans ((Below.heap_alloc _ _ _ (by simp; try omega)).trans ((Below.heap_alloc _ _ _ (by simp)).trans (heap_alloc_new _ _))))
  have hZ1 : w1.heap[w.heap.size + 1]? = some (.cells #[.int .i64 0, .bool false, .int .i64 0, .string ⟨#[]⟩, .slice none 0 0, .slice none 0 0] 27 (0, 0)) := (hgrow.block (w.heap.size + 1) (by simp; try omega) (by simp [Value.ownBlock]; try omega)).trans ((Below.heap_alloc _ _ _ (by simp; try omega)).trans ((Below.heap_alloc _ _ _ (by simp)).trans (heap_at (by simp))))
  have hT1 : w1.heap[w.heap.size + 2]? = some (.cells #[.int .i64 d.kind, .bool d.flag, .int .i64 d.num, .string d.text, .slice A4 d.keys.length c4, .slice A5 d.kids.length c5] 27 (0, 0)) := (hgrow.block (w.heap.size + 2) (by simp; try omega) (by simp [Value.ownBlock]; try omega)).trans ((Below.heap_alloc _ _ _ (by simp)).trans (heap_at (by simp)))
  have hs1 : w.heap.size + 4 ≤ w1.heap.size := by have := hgrow.size; simpa using this
  have hb1 : Below w.heap.size w w1 := Below.grown (bel : Below w.heap.size w _) hgrow (by simp; omega) (fun q hq => by simp [Value.ownBlock] at hq; omega)
  obtain ⟨t0, t1, t2, t3, t4, t5, tf⟩ := row6 hT1
  obtain ⟨y0, y1, y2, y3, y4, y5, yf⟩ := row6 hA1
  have HA1 := Lib.hid hA1
  have HZ1 := Lib.hid hZ1
  have HT1 := Lib.hid hT1
  have Hgs := Lib.hid hgs
  clear hA1 hZ1 hT1 hgs hgrow hat hown
  have hq0 : w.heap.size < w1.heap.size := by omega
  have hq1 : w.heap.size + 1 < w1.heap.size := by omega
  have hq2 : w.heap.size + 2 < w1.heap.size := by omega
  have hq3 : w.heap.size + 1 + 1 < w1.heap.size := by omega
  go_wp2_with fail
  go_loopw [4] (fun i wr => ∃ (k : Nat) (K : Option Addr) (c : Nat), k ≤ d.kids.length ∧ i = .int .i64 k ∧ wr.heap[w.heap.size]? = some (.cells #[.int .i64 d.kind, .bool d.flag, .int .i64 d.num, .string d.text, .slice A4 d.keys.length c4, .slice A5 d.kids.length c5] 27 (0, 0)) ∧ wr.heap[w.heap.size + 1]? = some (.cells #[.int .i64 0, .bool false, .int .i64 0, .string ⟨#[]⟩, .slice none 0 0, .slice none 0 0] 27 (0, 0)) ∧ wr.heap[w.heap.size + 2]? = some (.cells #[.int .i64 d.kind, .bool d.flag, .int .i64 d.num, .string d.text, .slice B4 d.keys.length b4, .slice K k c] 27 (0, 0)) ∧
    GrowK n w1.heap.size wr.heap.size wr (d.kids.take k) (.slice K k c) ∧ OwnS (fun b => w.heap.size + 3 ≤ b ∧ b < w1.heap.size) wr d.keys (.slice B4 d.keys.length b4) ∧ Below w.heap.size w wr ∧ w1.heap.size ≤ wr.heap.size) (fun i _ => d.kids.length - (intOf i).toNat)
  case atStart =>
    refine ⟨0, some ⟨w1.heap.size, 0, none⟩, 0, Nat.zero_le _, rfl, ?_, ?_, ?_, GrowK.empty (by simp) (by simp), Hgs.out.own.carry (fun b hb => (Below.heap_alloc _ _ b (by simp; omega)).trans ((Below.heap_setCell _ _ _ b (by simp; omega)).trans (Below.heap_setCell _ _ _ b (by simp; omega)))) (fun _ h => h), bel, by simp⟩
    · exact (Below.heap_alloc _ _ _ (by simp; omega)).trans ((Below.heap_setCell _ _ _ _ (by simp; try omega)).trans ((Below.heap_setCell _ _ _ _ (by simp; try omega)).trans HA1.out))
    · exact (Below.heap_alloc _ _ _ (by simp; omega)).trans ((Below.heap_setCell _ _ _ _ (by simp; try omega)).trans ((Below.heap_setCell _ _ _ _ (by simp; try omega)).trans HZ1.out))
    · exact (Below.heap_alloc _ _ _ (by simp; omega)).trans (heap_setCell_same _ (w.heap.size + 2) 5 _ _ _ (heap_setCell_same _ (w.heap.size + 2) 4 _ _ _ HT1.out))
  case round =>
    clear t0 t1 t2 t3 t4 t5 tf y0 y1 y2 y3 y4 y5 yf
    obtain ⟨k, K, c, hk, rfl, hA1, hZ1, hT1, hgk, hks, hbr, hwr⟩ := hrel
    obtain ⟨t0, t1, t2, t3, t4, t5, tf⟩ := row6 hT1
    obtain ⟨y0, y1, y2, y3, y4, y5, yf⟩ := row6 hA1
    have tl := row_lt hT1
    have yl := row_lt hA1
    have RA := Lib.hid hA1
    have RZ := Lib.hid hZ1
    have RT := Lib.hid hT1
    have Hks := Lib.hid hks
    have Hgk := Lib.hid hgk
    have hbs := hbr.size
    clear hA1 hZ1 hT1 hks hgk
    by_cases hlt : k < d.kids.length
    · obtain ⟨b, o, rfl, -, hb2, hcell⟩ := hA (by omega)
      obtain ⟨f, hf⟩ := exists_at hlt
      obtain ⟨es, -, hcs, hC⟩ := hcell k f hf
      have hC' := hC
      obtain ⟨eA4, ec4, eA5, ec5, rfl, ea0, ea2, ea3⟩ := hC'.flat
      have hc0 := (hbr.cell (p := ⟨b, o + k * 6 + 0, none⟩) (by simp; omega)).trans (hcs 0 (by omega))
      have hc1 := (hbr.cell (p := ⟨b, o + k * 6 + 1, none⟩) (by simp; omega)).trans (hcs 1 (by omega))
      have hc2 := (hbr.cell (p := ⟨b, o + k * 6 + 2, none⟩) (by simp; omega)).trans (hcs 2 (by omega))
      have hc3 := (hbr.cell (p := ⟨b, o + k * 6 + 3, none⟩) (by simp; omega)).trans (hcs 3 (by omega))
      have hc4 := (hbr.cell (p := ⟨b, o + k * 6 + 4, none⟩) (by simp; omega)).trans (hcs 4 (by omega))
      have hc5 := (hbr.cell (p := ⟨b, o + k * 6 + 5, none⟩) (by simp; omega)).trans (hcs 5 (by omega))
      simp at hc0 hc1 hc2 hc3 hc4 hc5
      have hbl : b < wr.heap.size := Nat.lt_of_lt_of_le hb2 hbr.size
      have hnd : nTree n f ≤ 1048576 := by have := nL_def (nTree n) d.kids; have := szL_take_succ (nTree n) d.kids k f hf; have := szL_take_le (nTree n) d.kids (k+1); omega
      have Htk := Lib.hid (show d.kids.take (k + 1) = d.kids.take k ++ [f] by rw [List.take_add_one, hf]; rfl)
      have Hlen := Lib.hid (show (d.kids.take k).length = k by rw [List.length_take]; omega)
      have hk0 : (0 : Int) ≤ k := by omega
      have hk1 : (k : Int) < d.kids.length := by omega
      obtain ⟨ess, F, e1, e2, e3, e4, e5, e6, e7⟩ := Hgk.out
      obtain ⟨r, hr⟩ : ∃ r, r = (Value.slice K k c).ownBlock := ⟨_, rfl⟩
      have hrl : ∀ q, r = some q → w1.heap.size ≤ q := fun q hq => (e3.lt q (by rw [← hr]; exact hq)).1
      have hn0 : r ≠ some w.heap.size := fun h => by have := hrl _ h; omega
      have hn1 : r ≠ some (w.heap.size + 1) := fun h => by have := hrl _ h; omega
      have hn2 : r ≠ some (w.heap.size + 1 + 1) := fun h => by have := hrl _ h; omega
      have hnb : r ≠ some b := fun h => by have := hrl _ h; omega
      have Hrl := Lib.hid hrl
      have Hr := Lib.hid hr
      have E := Lib.hid (And.intro e1 (And.intro e2 (And.intro e3 (And.intro e4 (And.intro e5 (And.intro e6 e7))))))
      clear hcs hcell hA hf hrl hr e1 e2 e3 e4 e5 e6 e7
      go_wp2_with fail
      go_region_law (first | (go_simp; go_at_call 112; refine (ih f _ _ lo (hC.now bel) hnd).mono ?_; rintro e w9 ⟨cs9, rfl, ho9, hb9⟩; obtain ⟨fA4, fc4, fA5, fc5, rfl, fa0, fa2, fa3⟩ := ho9.flat; obtain ⟨-, -, -, -, -, p5, -⟩ := row6 ((hb9.block (w.heap.size + 1 + 1) tl).trans RT.out); have p9 : w.heap.size + 1 + 1 < w9.heap.size := Nat.lt_of_lt_of_le tl hb9.size) | (refine step_append_lies _ rfl _ _ 25 rfl w1.heap.size 27 i0 (.agg #[.int .i64 0, .bool false, .int .i64 0, .string ⟨#[]⟩, .slice none 0 0, .slice none 0 0]) 6 88 Tryz.underlying25 hi hz0 hz1 hz2 rfl (by decide) _ k ess.flatten rfl (own9 E.out.2.2.1 hb9 rfl Hlen.out) ⟨w9.heap.size, 0, none⟩ 1 1 [.int .i64 f.kind, .bool f.flag, .int .i64 f.num, .string f.text, .slice fA4 f.keys.length fc4, .slice fA5 f.kids.length fc5] rfl rfl (World.news_of_block (heap_alloc_new w9 _)) ho9.one (by decide) (by unfold maxLen; omega) (by omega) (by have := hb9.size; simp at this ⊢; omega) _ rfl ?_; intro g cap w2 hown2 hgrow2 hat2 hlt2; have hgrow3 := grown_at Hr.out hgrow2; obtain ⟨-, -, -, -, -, q5, qf⟩ := row6 (row9 RT.out hb9 rfl hgrow2 Hr.out hn2)))
      all_goals
        have hs9 : wr.heap.size ≤ w9.heap.size := hb9.size
        have hB9 : Below w.heap.size w w9 := bel
        have hB2 := Below.grown (hB9.alloc (by omega) (.cells #[.int .i64 f.kind, .bool f.flag, .int .i64 f.num, .string f.text, .slice fA4 f.keys.length fc4, .slice fA5 f.kids.length fc5] 27)) hgrow2 (by simp; omega) (fun q hq => by have := Hrl.out q (Hr.out.trans hq); omega)
        have hP := GrowK.push (n := n) (base := w1.heap.size) (hi := wr.heap.size) (w := w9.alloc (.cells #[.int .i64 f.kind, .bool f.flag, .int .i64 f.num, .string f.text, .slice fA4 f.keys.length fc4, .slice fA5 f.kids.length fc5] 27)) (S := fun b => wr.heap.size ≤ b ∧ b < w9.heap.size) k Hlen.out (by simp; omega) (ho9.carry (fun b hb => Below.heap_alloc _ _ b hb.2) (fun b hb => hb)) (fun b hb => by simp; omega) hwr ess F E.out.1 E.out.2.1 E.out.2.2.2.1 E.out.2.2.2.2.1 E.out.2.2.2.2.2.1
          (fun i d' es' h1 h2 => (E.out.2.2.2.2.2.2 i d' es' h1 h2).carry (fun b hb => old9 (E.out.2.2.2.2.1 i b hb).2.1 hb9 rfl) (fun _ h => h)) hown2 hgrow2 (hat2.imp id (fun h => by rw [h]; simp)) hlt2
        have RA2 := row9 RA.out hb9 rfl hgrow2 Hr.out hn0
        have RZ2 := row9 RZ.out hb9 rfl hgrow2 Hr.out hn1
        have RT2 := row9 RT.out hb9 rfl hgrow2 Hr.out hn2
        have KS2 := Hks.out.carry (w' := w2) (fun b hb => blk9 (by omega) hb9 rfl hgrow2 Hr.out (fun h => by have := Hrl.out b h; omega)) (fun _ h => h)
        have hs2 := hgrow2.size
        simp at hs2
        clear hgrow2 hgrow3 hown2 hat2
        go_wp2_with fail
        go_roundw
        case rel =>
          refine ⟨k + 1, some ⟨g, 0, none⟩, cap, by omega, by go_num, (Below.heap_setCell _ _ _ _ (by simp; try omega)).trans RA2, (Below.heap_setCell _ _ _ _ (by simp; try omega)).trans RZ2, heap_setCell_same w2 (w.heap.size + 1 + 1) 5 _ _ _ RT2, ?_, KS2.carry (fun b hb => Below.heap_setCell _ _ _ b (by simp; omega)) (fun _ h => h), Below.setCell hB2 (by simp; omega) _, by simp; omega⟩
          rw [Htk.out]
          exact hP.carry (by simp) (fun q h1 _ => Below.heap_setCell _ _ _ q (by simp; omega))
        case measure => simp [intOf]; omega
    · obtain rfl : k = d.kids.length := by omega
      have hgk := Hgk.out
      rw [List.take_length] at hgk
      have Hg2 := Lib.hid hgk
      obtain ⟨z0, z1, z2, z3, z4, z5, zf⟩ := row6 RZ.out
      have zl : w.heap.size + 1 < wr.heap.size := row_lt RZ.out
      clear hA hgk
      go_wp2_with fail
      refine bodyPost_ret (v := .agg #[.int .i64 d.kind, .bool d.flag, .int .i64 d.num, .string d.text, .slice B4 d.keys.length b4, .slice K d.kids.length c]) (by simp only [results, Tryz.results112]; go_simp) rfl ⟨[.int .i64 d.kind, .bool d.flag, .int .i64 d.num, .string d.text, .slice B4 d.keys.length b4, .slice K d.kids.length c], rfl, OwnT.into ⟨_, _, fun b => w.heap.size + 3 ≤ b ∧ b < w1.heap.size, fun b => w1.heap.size ≤ b ∧ b < wr.heap.size, rfl, a0, a2, a3, ?_, ?_, Hks.out.carry ?_ (fun _ h => h), Hg2.out.own.keep ?_ (fun _ h => h)⟩, bel⟩
      · intro b hb; simp; omega
      · intro b hb; simp; omega
      · intro b hb
        exact Aside.block (S := fun b => b = w.heap.size + 1) (w := wr) (by repeat (first | (with_reducible exact Aside.refl _ _) | ((with_reducible refine aside_set ?_ ?_); (focus (simp; done))) | (with_reducible refine aside_alloc ?_))) b (by omega) (by omega)
      · intro b hb
        exact Aside.block (S := fun b => b = w.heap.size + 1) (w := wr) (by repeat (first | (with_reducible exact Aside.refl _ _) | ((with_reducible refine aside_set ?_ ?_); (focus (simp; done))) | (with_reducible refine aside_alloc ?_))) b (by omega) (by omega)
theorem all_l08 : ∀ n, T_l08 n
  | 0 => fun _ _ _ _ h _ => (C_Tree.none h).elim
  | n + 1 => of_l08 n (all_l08 n)
end Go.Proofs.YtffelpdefjkeaaaGreatDoor
namespace Go.Proofs.YtffelpdefjkeaaaGreatDoor
open Go.RowKit
/-- Two values hold the keys ks and the kids whose cells are css, in rows of the call's own behind block base. -/
structure MapRows (base : Nat) (w : World) (ks : List ByteArray) (css : List (List Value)) (vk vl : Value) : Prop where
  keys : w.ownsRow base 9 1 vk ks.length (ks.map Value.string)
  kids : w.ownsRow base 27 6 vl css.length css.flatten
  six : ∀ es ∈ css, es.length = 6
  one : ∀ x ∈ css.flatten, x.oneCell' = true
end Go.Proofs.YtffelpdefjkeaaaGreatDoor
namespace Go.Proofs.YtffelpdefjkeaaaGreatDoor
open Go.RowKit Go.Lib
/-- The rows of a map under way. -/
theorem MapG.rows {nT base hi : Nat} {w : World} {ks : List ByteArray} {l : List TreeD} {vk vl : Value} {ess : List (List Value)} {F : Nat → Nat → Prop} (h : MapG nT base hi w ks l vk vl ess F) : MapRows base w ks ess vk vl :=
  ⟨h.keys, h.len ▸ h.kids, h.six, h.one⟩
end Go.Proofs.YtffelpdefjkeaaaGreatDoor
namespace Go.Proofs.YtffelpdefjkeaaaGreatDoor
open Go.RowKit Go.Lib
/-- The map's box is stored to as a whole. -/
theorem PBox.all {b : Nat} {w wx : World} {vk vl u v : Value} (h : PBox b w wx vk vl) : PBox b w ((((((wx.setCell ⟨w.heap.size + 1, 0, none⟩ (.int .i64 6)).setCell ⟨w.heap.size + 1, 1, none⟩ (.bool false)).setCell ⟨w.heap.size + 1, 2, none⟩ (.int .i64 0)).setCell ⟨w.heap.size + 1, 3, none⟩ (.string ⟨#[]⟩)).setCell ⟨w.heap.size + 1, 4, none⟩ u).setCell ⟨w.heap.size + 1, 5, none⟩ v) u v := by
  have h0 : PBox b w (wx.setCell ⟨w.heap.size + 1, 0, none⟩ (.int .i64 6)) vk vl := ⟨(Below.heap_setCell _ _ _ _ (by simp)).trans h.zero, heap_setCell_same wx (w.heap.size + 1) 0 _ _ _ h.map, aside_set (.inr (by simp)) h.aside⟩
  have h1 : PBox b w ((wx.setCell ⟨w.heap.size + 1, 0, none⟩ (.int .i64 6)).setCell ⟨w.heap.size + 1, 1, none⟩ (.bool false)) vk vl := ⟨(Below.heap_setCell _ _ _ _ (by simp)).trans h0.zero, heap_setCell_same _ (w.heap.size + 1) 1 _ _ _ h0.map, aside_set (.inr (by simp)) h0.aside⟩
  have h2 : PBox b w (((wx.setCell ⟨w.heap.size + 1, 0, none⟩ (.int .i64 6)).setCell ⟨w.heap.size + 1, 1, none⟩ (.bool false)).setCell ⟨w.heap.size + 1, 2, none⟩ (.int .i64 0)) vk vl := ⟨(Below.heap_setCell _ _ _ _ (by simp)).trans h1.zero, heap_setCell_same _ (w.heap.size + 1) 2 _ _ _ h1.map, aside_set (.inr (by simp)) h1.aside⟩
  have h3 : PBox b w ((((wx.setCell ⟨w.heap.size + 1, 0, none⟩ (.int .i64 6)).setCell ⟨w.heap.size + 1, 1, none⟩ (.bool false)).setCell ⟨w.heap.size + 1, 2, none⟩ (.int .i64 0)).setCell ⟨w.heap.size + 1, 3, none⟩ (.string ⟨#[]⟩)) vk vl := ⟨(Below.heap_setCell _ _ _ _ (by simp)).trans h2.zero, heap_setCell_same _ (w.heap.size + 1) 3 _ _ _ h2.map, aside_set (.inr (by simp)) h2.aside⟩
  exact h3.set4.set5
end Go.Proofs.YtffelpdefjkeaaaGreatDoor
namespace Go.Proofs.YtffelpdefjkeaaaGreatDoor
open Go.RowKit Go.Lib
def brN (s : ByteArray) : ByteArray × Flt := if (readB s).1.code = 0 then (bracedB 10 (readB s).2, flt0) else (⟨#[]⟩, (readB s).1)
theorem readB_flt (s : ByteArray) (h : (readB s).1.code = 0) : (readB s).1 = flt0 := by
  by_cases hf : (signsF s).2.code = 0
  · have h2 := readJ_good (signsF s).1 s.size (2 * (signsF s).1.length + 4) (.value 1) 0 0 (Nat.zero_le _) (Nat.zero_le _) (by unfold needJ; simp only; omega)
    rcases hq : readJ (signsF s).1 s.size (2 * (signsF s).1.length + 4) (.value 1) 0 0 with f | ⟨t, p, m⟩
    · rw [hq] at h2
      rw [readB_bad hf hq] at h
      exact absurd h h2
    · by_cases hp : p < (signsF s).1.length
      · rw [readB_more hf hq hp] at h
        exact absurd (show (4 : Int) = 0 from h) (by decide)
      · rw [readB_good hf hq hp]
  · rw [readB_sign hf] at h
    exact absurd h hf
theorem size_cnt : ∀ (n : Nat) (d : TreeD), sizeT n d ≤ cntT n d + 1
  | 0, d => by unfold sizeT; omega
  | n + 1, d => by
    have h : ∀ l : List TreeD, szL (sizeT n) l ≤ cntL n l := by
      intro l
      induction l with
      | nil => exact Nat.zero_le _
      | cons x l ih =>
        have h1 := size_cnt n x
        have h2 : cntL n (x :: l) = (4 + cntT n x) + cntL n l := rfl
        simp only [szL]
        omega
    rw [sizeT_succ, cntT_succ]
    have := h d.kids
    omega
theorem size_readB (s : ByteArray) : sizeT 10 (readB s).2 ≤ 1073741824 := by
  have h1 := size_cnt 10 (readB s).2
  have h2 := cnt_readB s
  omega
set_option maxHeartbeats 4000000 in
theorem c_impl_BracedNormal (s : ByteArray) (w : World) (hs : s.size ≤ 1048576) (hP : Pow w) (hE : ErrR w) (hT : Tabs w) (hV : CTab w) :
    Calls Tryz.prog 21 #[.string s] w fun e w' => e = .returned (.tuple #[.string (brN s).1, .agg (fltC (brN s).2)]) ∧ Below w.heap.size w w' := by
  have hz := size_readB s
  have HF := Lib.hid (show brN s = if (readB s).1.code = 0 then (bracedB 10 (readB s).2, flt0) else (⟨#[]⟩, (readB s).1) from rfl)
  have hf0 := readB_flt s
  have HI := Lib.hid (fun (w' : World) (h : Below w.heap.size w w') => c_impl_ReadBraced s w' hs (hV.below h) (hT.below h) (hE.below h))
  obtain ⟨r, hr⟩ : ∃ r, r = readB s := ⟨_, rfl⟩
  rw [← hr] at HI HF hz hf0
  obtain ⟨b, hb⟩ : ∃ b, b = brN s := ⟨_, rfl⟩
  rw [← hb] at HF ⊢
  clear hr hb
  obtain ⟨⟨fc, fa, fp⟩, t⟩ := r
  simp only at HF hz hf0
  have hrf : fltC (⟨fc, fa, fp⟩ : Flt) = #[.int .i64 fc, .int .i64 fa, .string fp] := rfl
  go_enter Tryz.func21, Tryz.ntmps21
  go_wp2_with fail
  refine (HI.out _ bel).mono ?_
  rintro e w1 ⟨cs, rfl, hO1, hb1⟩
  have HC1 := Lib.hid (hO1.toC (fun _ h => h))
  obtain ⟨U4, u44, U5, u55, rfl, -⟩ := hO1.flat
  simp only [hrf]
  clear hO1 hrf
  have X0 : w1.heap[w.heap.size]? = some (.cells #[.int .i64 0, .int .i64 0, .string ⟨#[]⟩] 29 (0, 0)) := (hb1.block _ (by simp)).trans (heap_at rfl)
  have hb01 : Below w.heap.size w w1 := Below.trans bel (hb1.mono (by simp))
  have l0 := row_lt X0
  have HX0 := Lib.hid X0
  have HB01 := Lib.hid hb01
  clear hb1 X0 hb01
  go_upto_region 2 with fail
  obtain ⟨w2, hw2⟩ : ∃ W, W = (w1.alloc (.cells #[.int .i64 t.kind, .bool t.flag, .int .i64 t.num, .string t.text, .slice U4 t.keys.length u44, .slice U5 t.kids.length u55] 27)).alloc (.cells #[.int .i64 fc, .int .i64 fa, .string fp] 29) := ⟨_, rfl⟩
  have hb2 : Below w1.heap.size w1 w2 := by rw [hw2]; exact bel
  have X1 : w2.heap[w1.heap.size]? = some (.cells #[.int .i64 t.kind, .bool t.flag, .int .i64 t.num, .string t.text, .slice U4 t.keys.length u44, .slice U5 t.kids.length u55] 27 (0, 0)) := by rw [hw2]; exact (Below.heap_alloc _ _ _ (by simp)).trans (heap_at rfl)
  have X2 : w2.heap[w1.heap.size + 1]? = some (.cells #[.int .i64 fc, .int .i64 fa, .string fp] 29 (0, 0)) := by rw [hw2]; exact heap_at (by simp)
  rw [← hw2]
  have s2 := hb2.size
  have HX1 := Lib.hid X1
  have HX2 := Lib.hid X2
  have HX02 := Lib.hid ((hb2.block _ l0).trans HX0.out)
  have HB02 := Lib.hid (HB01.out.trans (hb2.mono HB01.out.size))
  have hz01 := HB01.out.size
  have HC2 := Lib.hid ((HC1.out.keep (same_below hb2) (Nat.zero_le _) hb2.size : C_Tree 10 0 w2.heap.size w2 t _))
  have l1 := row_lt X1
  have l2 := row_lt X2
  obtain ⟨x0, x1, x2, x3, x4, x5, xf⟩ := row6 X1
  obtain ⟨y0, y1, y2, yf⟩ := row3 X2
  obtain ⟨z0, z1, z2, zf⟩ := row3 HX02.out
  have l02 := row_lt HX02.out
  clear hw2 hb2 X1 X2 HC1 HX0 HB01
  have q1 : (fc == 0) = false ∨ (fc == 0) = true := by rcases (fc == 0) with _ | _ <;> simp
  rcases q1 with q1 | q1
  · have hne : fc ≠ 0 := fun e => by rw [e] at q1; cases q1
    have HX := Lib.hid (show b = (⟨#[]⟩, ⟨fc, fa, fp⟩) by rw [HF.out, if_neg hne])
    clear hne hf0
    go_upto_region 3 with fail
    go_region_law fail
    go_wp2_with fail
    have hb2 := HB02.out
    all_goals exact bodyPost_ret (v := .tuple #[.string ⟨#[]⟩, .agg #[.int .i64 fc, .int .i64 fa, .string fp]]) (by simp only [results, Tryz.results21]; go_simp) rfl ⟨by rw [HX.out]; rfl, bel⟩
  · have he : fc = 0 := by simpa using q1
    have HX := Lib.hid (show b = (bracedB 10 t, flt0) by rw [HF.out, if_pos he])
    have h0 := hf0 he
    unfold flt0 at h0
    injection h0 with e1 e2 e3
    subst e1 e2 e3
    clear hf0 he
    have HT := Lib.hid (fun (w' : World) (h : Below w2.heap.size w2 w') => c_impl_BracedText 10 t _ w' 0 (HC2.out.now h) hz (hT.below (HB02.out.trans (h.mono HB02.out.size))) (hP.below (HB02.out.trans (h.mono HB02.out.size))))
    go_wp2_with fail
    refine (HT.out _ bel).mono ?_
    rintro e w3 ⟨rfl, hb3⟩
    have h23 : Below w2.heap.size w2 w3 := Below.trans bel (hb3.mono (by simp))
    have h03 := HB02.out.trans (h23.mono HB02.out.size)
    have X0 := (h23.block _ l02).trans HX02.out
    have X2 := (h23.block _ l2).trans HX2.out
    obtain ⟨u0, u1, u2, uf⟩ := row3 X2
    obtain ⟨v0, v1, v2, vf⟩ := row3 X0
    have l03 := row_lt X0
    have l23 := row_lt X2
    clear y0 y1 y2 yf z0 z1 z2 zf x0 x1 x2 x3 x4 x5 xf
    go_wp2_with fail
    have hb2 := HB02.out
    all_goals exact bodyPost_ret (v := .tuple #[.string (bracedB 10 t), .agg #[.int .i64 0, .int .i64 0, .string ⟨#[]⟩]]) (by simp only [results, Tryz.results21]; go_simp) rfl ⟨by rw [HX.out]; rfl, bel⟩
end Go.Proofs.YtffelpdefjkeaaaGreatDoor
