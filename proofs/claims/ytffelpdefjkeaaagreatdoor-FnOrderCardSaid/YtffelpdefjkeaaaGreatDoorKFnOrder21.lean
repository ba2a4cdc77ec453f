/- Written by wip/tools/pack.py: the texts that FnOrder needs, without what it does not need. No conditions. -/
import Derived.Test.YtffelpdefjkeaaaGreatDoorKFnOrder19
import Derived.Test.YtffelpdefjkeaaaGreatDoorKFnOrder20
import Derived.Test.YtffelpdefjkeaaaGreatDoorKFnOrder13
import Derived.Test.YtffelpdefjkeaaaGreatDoorKFnOrder15
namespace Go.Proofs.YtffelpdefjkeaaaGreatDoor
open Go.RowKit Go.Lib
structure PutSt where
  laid : Bool
  ks : List ByteArray
  vs : List TreeD
def putOne (key : ByteArray) (kid : TreeD) (st : PutSt) (k : ByteArray) (v : TreeD) : PutSt :=
  if !st.laid && !lessS k key then (if k = key then ⟨true, st.ks ++ [key], st.vs ++ [kid]⟩ else ⟨true, (st.ks ++ [key]) ++ [k], (st.vs ++ [kid]) ++ [v]⟩)
  else (if k = key then st else ⟨st.laid, st.ks ++ [k], st.vs ++ [v]⟩)
def putS (key : ByteArray) (kid : TreeD) (ks : List ByteArray) (vs : List TreeD) : Nat → PutSt
  | 0 => ⟨false, [], []⟩
  | i + 1 => match ks[i]?, vs[i]? with | some k, some v => putOne key kid (putS key kid ks vs i) k v | _, _ => putS key kid ks vs i
theorem putS_next {key : ByteArray} {kid : TreeD} {ks : List ByteArray} {vs : List TreeD} {i : Nat} {k : ByteArray} {v : TreeD} (hk : ks[i]? = some k) (hv : vs[i]? = some v) : putS key kid ks vs (i + 1) = putOne key kid (putS key kid ks vs i) k v := by
  rw [putS, hk, hv]
def putE (key : ByteArray) (kid : TreeD) (st : PutSt) : PutSt := if st.laid then st else ⟨true, st.ks ++ [key], st.vs ++ [kid]⟩
def putD (d : TreeD) (key : ByteArray) (kid : TreeD) : TreeD := tMap (putE key kid (putS key kid d.keys d.kids d.keys.length)).ks (putE key kid (putS key kid d.keys d.kids d.keys.length)).vs
def putB (n : Nat) (d : TreeD) (key : ByteArray) (kid : TreeD) : Bool := d.kind == 6 && okT n d && okT n (putD d key kid)
/-- What PutKid yields. -/
def putT (n : Nat) (d : TreeD) (key : ByteArray) (kid : TreeD) : TreeD := if putB n d key kid = true then putD d key kid else d
structure PutI (key : ByteArray) (kid : TreeD) (ks : List ByteArray) (vs : List TreeD) (i : Nat) (st : PutSt) : Prop where
  len : st.ks.length = st.vs.length
  cnt : st.ks.length ≤ i + 1
  cnt0 : st.laid = false → st.ks.length ≤ i
  sort : SortK st.ks
  mem : ∀ x ∈ st.ks, x = key ∨ x ∈ ks
  memv : ∀ x ∈ st.vs, x = kid ∨ x ∈ vs
  low : ∀ x ∈ st.ks, ∀ j k, i ≤ j → ks[j]? = some k → lessS x k = true
  yet : st.laid = false → ∀ x ∈ st.ks, lessS x key = true
theorem sort_push {ks : List ByteArray} {k : ByteArray} (h : SortK ks) (hk : ∀ x ∈ ks, lessS x k = true) : SortK (ks ++ [k]) := by
  unfold SortK at *
  rw [List.pairwise_append]
  refine ⟨h, by simp, fun a ha b hb => ?_⟩
  simp at hb
  subst hb
  exact hk a ha
theorem sort_at {ks : List ByteArray} (h : SortK ks) {i j : Nat} {a b : ByteArray} (hij : i < j) (ha : ks[i]? = some a) (hb : ks[j]? = some b) : lessS a b = true := by
  obtain ⟨g1, g2⟩ := List.getElem?_eq_some_iff.1 ha
  obtain ⟨f1, f2⟩ := List.getElem?_eq_some_iff.1 hb
  have := List.pairwise_iff_getElem.1 h i j g1 f1 hij
  rw [g2, f2] at this
  exact this
theorem PutI.push {key : ByteArray} {kid : TreeD} {ks : List ByteArray} {vs : List TreeD} {i : Nat} {k : ByteArray} {v : TreeD} (hs : SortK ks) (hk : ks[i]? = some k) (hv : vs[i]? = some v) {l : Bool} {K : List ByteArray} {V : List TreeD}
    (h1 : K.length = V.length) (h2 : K.length ≤ i + 1) (h2' : l = false → K.length ≤ i) (h3 : SortK K) (h4 : ∀ x ∈ K, x = key ∨ x ∈ ks) (h5 : ∀ x ∈ V, x = kid ∨ x ∈ vs) (h6 : ∀ x ∈ K, ∀ j k, i ≤ j → ks[j]? = some k → lessS x k = true) (h7 : l = false → ∀ x ∈ K, lessS x key = true) (h8 : l = false → lessS k key = true) :
    PutI key kid ks vs (i + 1) ⟨l, K ++ [k], V ++ [v]⟩ := by
  refine ⟨by simp [h1], by simp; omega, fun h => by have := h2' h; simp; omega, sort_push h3 (fun x hx => h6 x hx i k (Nat.le_refl _) hk), ?_, ?_, ?_, ?_⟩
  · intro x hx
    rcases List.mem_append.1 hx with hx | hx
    · exact h4 x hx
    · simp at hx; subst hx; exact .inr (List.mem_of_getElem? hk)
  · intro x hx
    rcases List.mem_append.1 hx with hx | hx
    · exact h5 x hx
    · simp at hx; subst hx; exact .inr (List.mem_of_getElem? hv)
  · intro x hx j y hj hy
    rcases List.mem_append.1 hx with hx | hx
    · exact h6 x hx j y (by omega) hy
    · simp at hx; subst hx; exact sort_at hs (by omega) hk hy
  · intro hl x hx
    rcases List.mem_append.1 hx with hx | hx
    · exact h7 hl x hx
    · simp at hx; subst hx; exact h8 hl
theorem PutI.step {key : ByteArray} {kid : TreeD} {ks : List ByteArray} {vs : List TreeD} {i : Nat} {k : ByteArray} {v : TreeD} (hs : SortK ks) (hk : ks[i]? = some k) (hv : vs[i]? = some v) {st : PutSt} (h : PutI key kid ks vs i st) : PutI key kid ks vs (i + 1) (putOne key kid st k v) := by
  obtain ⟨l, K, V⟩ := st
  obtain ⟨h1, h2, h2', h3, h4, h5, h6, h7⟩ := h
  unfold putOne
  dsimp only at *
  by_cases c : (!l && !lessS k key) = true
  · rw [if_pos c]
    simp at c
    obtain ⟨rfl, c⟩ := c
    have h2 := h2' rfl
    have h7 := h7 rfl
    have hmem : ∀ x ∈ K ++ [key], x = key ∨ x ∈ ks := fun x hx => by
      rcases List.mem_append.1 hx with hx | hx
      · exact h4 x hx
      · simp at hx; exact .inl hx
    have hmv : ∀ x ∈ V ++ [kid], x = kid ∨ x ∈ vs := fun x hx => by
      rcases List.mem_append.1 hx with hx | hx
      · exact h5 x hx
      · simp at hx; exact .inl hx
    by_cases e : k = key
    · rw [if_pos e]
      subst e
      refine ⟨by simp [h1], by simp; omega, fun h => ((by cases h)), sort_push h3 h7, hmem, hmv, ?_, fun h => ((by cases h))⟩
      intro x hx j y hj hy
      rcases List.mem_append.1 hx with hx | hx
      · exact h6 x hx j y (by omega) hy
      · simp at hx; subst hx; exact sort_at hs (by omega) hk hy
    · rw [if_neg e]
      have hlt : lessS key k = true := lessS_other c e
      refine PutI.push hs hk hv (by simp [h1]) (by simp; omega) (fun h => (by cases h)) (sort_push h3 h7) hmem hmv ?_ (fun h => (by cases h)) (fun h => (by cases h))
      intro x hx j y hj hy
      rcases List.mem_append.1 hx with hx | hx
      · exact h6 x hx j y hj hy
      · simp at hx
        subst hx
        rcases Nat.eq_or_lt_of_le hj with rfl | hj
        · rw [hk] at hy; cases hy; exact hlt
        · exact lessS_trans3 hlt (sort_at hs hj hk hy)
  · rw [if_neg c]
    by_cases e : k = key
    · rw [if_pos e]
      exact ⟨h1, (show K.length ≤ i + 1 + 1 by omega), fun h => (show K.length ≤ i + 1 by have := h2' h; omega), h3, h4, h5, fun x hx j y hj hy => h6 x hx j y (by omega) hy, h7⟩
    · rw [if_neg e]
      refine PutI.push hs hk hv h1 h2 h2' h3 h4 h5 h6 h7 (fun hl => ?_)
      subst hl
      simpa using c
theorem putS_inv {key : ByteArray} {kid : TreeD} {ks : List ByteArray} {vs : List TreeD} (hs : SortK ks) (hl : ks.length = vs.length) : ∀ i, i ≤ ks.length → PutI key kid ks vs i (putS key kid ks vs i)
  | 0, _ => ⟨rfl, Nat.zero_le _, fun _ => Nat.le_refl _, List.Pairwise.nil, fun x hx => ((by cases hx)), fun x hx => ((by cases hx)), fun x hx => ((by cases hx)), fun _ x hx => ((by cases hx))⟩
  | i + 1, hi => by
    obtain ⟨k, hk⟩ := exists_at (show i < ks.length by omega)
    obtain ⟨v, hv⟩ := exists_at (show i < vs.length by omega)
    rw [putS_next hk hv]
    exact (putS_inv hs hl i (by omega)).step hs hk hv
structure Maps (key : ByteArray) (kid : TreeD) (ks : List ByteArray) (vs : List TreeD) (K : List ByteArray) (V : List TreeD) : Prop where
  len : K.length = V.length
  cnt : K.length ≤ ks.length + 1
  sort : SortK K
  mem : ∀ x ∈ K, x = key ∨ x ∈ ks
  memv : ∀ x ∈ V, x = kid ∨ x ∈ vs
theorem putE_maps {key : ByteArray} {kid : TreeD} {ks : List ByteArray} {vs : List TreeD} {st : PutSt} (h : PutI key kid ks vs ks.length st) : Maps key kid ks vs (putE key kid st).ks (putE key kid st).vs := by
  obtain ⟨l, K, V⟩ := st
  obtain ⟨h1, h2, h2', h3, h4, h5, h6, h7⟩ := h
  unfold putE
  dsimp only at *
  cases l with
  | true => exact ⟨h1, h2, h3, h4, h5⟩
  | false =>
    have := h2' rfl
    refine ⟨by simp [h1], by simp; omega, sort_push h3 (h7 rfl), fun x hx => ?_, fun x hx => ?_⟩
    · rcases List.mem_append.1 hx with hx | hx
      · exact h4 x hx
      · simp at hx; exact .inl hx
    · rcases List.mem_append.1 hx with hx | hx
      · exact h5 x hx
      · simp at hx; exact .inl hx
theorem putD_maps {d : TreeD} (key : ByteArray) (kid : TreeD) (hs : SortK d.keys) (hl : d.keys.length = d.kids.length) : ∃ K V, putD d key kid = tMap K V ∧ Maps key kid d.keys d.kids K V :=
  ⟨_, _, rfl, putE_maps (putS_inv hs hl _ (Nat.le_refl _))⟩
def szB : Nat → Nat
  | 0 => 0
  | k + 1 => 1 + 4 * szB k
def syB : Nat → Nat
  | 0 => 0
  | 1 => 122
  | k + 2 => 2 + 4 * (124 + syB (k + 1))
def ceB : Nat → Nat
  | 0 => 0
  | k + 1 => 120 + 4 * ceB k
theorem word_none : WordOk ⟨#[]⟩ := word_low (by decide) (by decide)
/-- Small words at every place, few kids at every node. -/
def WordT : Nat → TreeD → Prop
  | 0, _ => False
  | k + 1, d => WordOk d.text ∧ (∀ x ∈ d.keys, WordOk x) ∧ d.kids.length ≤ 4 ∧ ∀ t ∈ d.kids, WordT k t
structure Drawn (k : Nat) (d : TreeD) : Prop where
  shape : shapeT k d = true
  num : numT k d
  size : sizeT k d ≤ szB k
  say : (sayL k d).length ≤ syB k
  cells : nTree k d ≤ ceB k
  word : WordT k d
theorem depth_le : ∀ (k : Nat) (d : TreeD), depthT k d ≤ k
  | 0, _ => Nat.le_refl _
  | k + 1, d => by
    rw [depthT_succ]
    have := mxL_le (f := depthT k) (b := k) (l := d.kids) (fun x _ => depth_le k x)
    omega
theorem Drawn.ok {k : Nat} {d : TreeD} (h : Drawn k d) (hk : k ≤ 4) : okT k d = true := by
  have h1 := depth_le k d
  have h2 := h.size
  have h3 : szB k ≤ szB 4 := by
    rcases (show k = 0 ∨ k = 1 ∨ k = 2 ∨ k = 3 ∨ k = 4 by omega) with rfl | rfl | rfl | rfl | rfl <;> decide
  have h4 : szB 4 = 85 := rfl
  rw [okT_def, h.shape, decide_eq_true (by omega), decide_eq_true (by omega)]
  rfl
theorem szL_leB {D : Type} {f : D → Nat} {B : Nat} : ∀ {l : List D}, (∀ x ∈ l, f x ≤ B) → szL f l ≤ l.length * B
  | [], _ => Nat.zero_le _
  | x :: l, h => by
    have h1 := h x (by simp)
    have h2 := szL_leB (f := f) (B := B) (l := l) (fun y hy => h y (by simp [hy]))
    simp only [szL, List.length_cons, Nat.add_mul, Nat.one_mul]
    omega
theorem syB_pos (k : Nat) : 122 ≤ syB (k + 1) := by
  cases k with
  | zero => exact Nat.le_refl _
  | succ k => unfold syB; omega
theorem drawn_leaf {k : Nat} {t : TreeD} (h1 : badH t = false) (h2 : WordOk t.text) (h3 : lensOk t = true) (h4 : t.keys = []) (h5 : t.kids = []) (h6 : I64 t.num) (h7 : (sayL (k + 1) t).length ≤ 122) : Drawn (k + 1) t := by
  have h := leaf_ok (N := k) (d := 1) (by omega) h1 h2.str h3 h4 h5 h6
  refine ⟨h.1.shape, h.1.num, ?_, Nat.le_trans h7 (syB_pos k), ?_, h2, fun x hx => (by rw [h4] at hx; cases hx), by rw [h5]; exact Nat.zero_le _, fun x hx => (by rw [h5] at hx; cases hx)⟩
  · rw [h.2]; unfold szB; omega
  · rw [nTree_succ, h4, h5]
    have := h2.2
    simp only [nL, szL, List.length_nil]
    unfold ceB
    omega
theorem mul4 {m B : Nat} (h : m ≤ 4) : m * B ≤ 4 * B := Nat.mul_le_mul_right B h
theorem drawn_list {k : Nat} {l : List TreeD} (hl : l.length ≤ 4) (h : ∀ t ∈ l, Drawn (k + 1) t) : Drawn (k + 2) (tList l) := by
  have hs : badH (tList l) = false := by unfold badH tList inB; simp
  have m1 := szL_leB (f := sizeT (k + 1)) (B := szB (k + 1)) (l := l) (fun x hx => (h x hx).size)
  have m2 := szL_leB (f := nTree (k + 1)) (B := ceB (k + 1)) (l := l) (fun x hx => (h x hx).cells)
  have m3 := szL_leB (f := fun t => (sayL (k + 1) t).length + 1) (B := syB (k + 1) + 1) (l := l) (fun x hx => by have := (h x hx).say; omega)
  have q1 := mul4 (B := szB (k + 1)) hl
  have q2 := mul4 (B := ceB (k + 1)) hl
  have q3 := mul4 (B := syB (k + 1) + 1) hl
  refine ⟨shape_mk hs strB_empty rfl (fun i hi => by simp [tList] at hi) (fun t ht => (h t ht).shape), ⟨(show I64 0 from by unfold I64; decide), fun t ht => (h t ht).num⟩, ?_, ?_, ?_, word_none, fun x hx => (by cases hx), hl, fun t ht => (h t ht).word⟩
  · rw [sizeT_succ]
    show 1 + szL (sizeT (k + 1)) l ≤ 1 + 4 * szB (k + 1)
    omega
  · by_cases hne : l = []
    · subst hne
      show 2 ≤ 2 + 4 * (124 + syB (k + 1))
      omega
    · rw [list_len hne]
      show _ ≤ 2 + 4 * (124 + syB (k + 1))
      omega
  · rw [nTree_succ]
    show (⟨#[]⟩ : ByteArray).size + nL ByteArray.size [] + nL (nTree (k + 1)) l ≤ 120 + 4 * ceB (k + 1)
    have e0 : (⟨#[]⟩ : ByteArray).size = 0 := rfl
    simp only [nL, szL, List.length_nil]
    omega
/-- A map that grows. -/
structure MapD (k m : Nat) (ks : List ByteArray) (l : List TreeD) : Prop where
  len : ks.length = l.length
  cnt : ks.length ≤ m
  sort : SortK ks
  word : ∀ x ∈ ks, WordOk x
  kid : ∀ t ∈ l, Drawn k t
theorem MapD.nil (k : Nat) : MapD k 0 [] [] := ⟨rfl, Nat.le_refl _, List.Pairwise.nil, fun x hx => ((by cases hx)), fun x hx => ((by cases hx))⟩
theorem drawn_map {k : Nat} {ks : List ByteArray} {l : List TreeD} (h : MapD (k + 1) 4 ks l) : Drawn (k + 2) (tMap ks l) := by
  obtain ⟨hlen, hcnt, hsort, hword, hkid⟩ := h
  have hl : l.length ≤ 4 := by omega
  have hs : badH (tMap ks l) = false := by unfold badH tMap inB; simp
  have m1 := szL_leB (f := sizeT (k + 1)) (B := szB (k + 1)) (l := l) (fun x hx => (hkid x hx).size)
  have m2 := szL_leB (f := nTree (k + 1)) (B := ceB (k + 1)) (l := l) (fun x hx => (hkid x hx).cells)
  have m3 := szL_leB (f := fun t => (sayL (k + 1) t).length + 1) (B := syB (k + 1) + 1) (l := l) (fun x hx => by have := (hkid x hx).say; omega)
  have m4 := szL_leB (f := qlen) (B := 123) (l := ks) (fun x hx => by have := (hword x hx).quote; unfold qlen; omega)
  have m5 := szL_leB (f := ByteArray.size) (B := 20) (l := ks) (fun x hx => (hword x hx).2)
  have q1 := mul4 (B := szB (k + 1)) hl
  have q2 := mul4 (B := ceB (k + 1)) hl
  have q3 := mul4 (B := syB (k + 1) + 1) hl
  refine ⟨shape_mk hs strB_empty (by unfold lensOk tMap; simp [hlen]) (keys_ok hsort (fun x hx => (hword x hx).str)) (fun t ht => (hkid t ht).shape), ⟨(show I64 0 from by unfold I64; decide), fun t ht => (hkid t ht).num⟩, ?_, ?_, ?_, word_none, hword, hl, fun t ht => (hkid t ht).word⟩
  · rw [sizeT_succ]
    show 1 + szL (sizeT (k + 1)) l ≤ 1 + 4 * szB (k + 1)
    omega
  · by_cases hne : l = []
    · subst hne
      show 2 ≤ 2 + 4 * (124 + syB (k + 1))
      omega
    · rw [map_len hne hlen]
      show _ ≤ 2 + 4 * (124 + syB (k + 1))
      omega
  · rw [nTree_succ]
    show (⟨#[]⟩ : ByteArray).size + nL ByteArray.size ks + nL (nTree (k + 1)) l ≤ 120 + 4 * ceB (k + 1)
    have e0 : (⟨#[]⟩ : ByteArray).size = 0 := rfl
    simp only [nL]
    omega
theorem MapD.more {k m m' : Nat} {ks : List ByteArray} {l : List TreeD} (h : MapD k m ks l) (hm : m ≤ m') : MapD k m' ks l := ⟨h.len, Nat.le_trans h.cnt hm, h.sort, h.word, h.kid⟩
theorem MapD.put {k m n : Nat} {ks : List ByteArray} {l : List TreeD} {key : ByteArray} {kid : TreeD} (h : MapD k m ks l) (hk : WordOk key) (ht : Drawn k kid) : ∃ K V, putT n (tMap ks l) key kid = tMap K V ∧ MapD k (m + 1) K V := by
  unfold putT
  by_cases c : putB n (tMap ks l) key kid = true
  · rw [if_pos c]
    obtain ⟨K, V, h1, h2⟩ := putD_maps (d := tMap ks l) key kid h.sort h.len
    refine ⟨K, V, h1, h2.len, Nat.le_trans h2.cnt (Nat.add_le_add_right h.cnt 1), h2.sort, fun x hx => ?_, fun x hx => ?_⟩
    · rcases h2.mem x hx with rfl | hx
      · exact hk
      · exact h.word x hx
    · rcases h2.memv x hx with rfl | hx
      · exact ht
      · exact h.kid x hx
  · rw [if_neg c]
    exact ⟨ks, l, rfl, h.more (Nat.le_add_right _ _)⟩
/-- What is drawn fits. -/
theorem Drawn.fits {k : Nat} {d : TreeD} (h : Drawn k d) (hk : k ≤ 4) : nTree k d ≤ 1048576 ∧ sizeT k d ≤ 1073741824 ∧ (sayL k d).length ≤ 18266 := by
  have h2 := h.size
  have h3 := h.cells
  have h4 := h.say
  rcases (show k = 0 ∨ k = 1 ∨ k = 2 ∨ k = 3 ∨ k = 4 by omega) with rfl | rfl | rfl | rfl | rfl
  · exact ⟨Nat.le_trans h3 (by decide), Nat.le_trans h2 (by decide), Nat.le_trans h4 (by decide)⟩
  · exact ⟨Nat.le_trans h3 (by decide), Nat.le_trans h2 (by decide), Nat.le_trans h4 (by decide)⟩
  · exact ⟨Nat.le_trans h3 (by decide), Nat.le_trans h2 (by decide), Nat.le_trans h4 (by decide)⟩
  · exact ⟨Nat.le_trans h3 (by decide), Nat.le_trans h2 (by decide), Nat.le_trans h4 (by decide)⟩
  · exact ⟨Nat.le_trans h3 (by decide), Nat.le_trans h2 (by decide), Nat.le_trans h4 (by decide)⟩
end Go.Proofs.YtffelpdefjkeaaaGreatDoor
namespace Go.Proofs.YtffelpdefjkeaaaGreatDoor
open Go.RowKit Go.Lib
structure PutR (n : Nat) (d kid : TreeD) (A4 : Option Addr) (c4 : Nat) (A5 : Option Addr) (c5 : Nat) (E4 : Option Addr) (e4 : Nat) (E5 : Option Addr) (e5 : Nat) (B : Nat) (w wr : World) (K : List ByteArray) (V : List TreeD) (nk nv : Nat) (B4 : Option Addr) (b4 : Nat) (B5 : Option Addr) (b5 : Nat) (ess : List (List Value)) (F : Nat → Nat → Prop) : Prop where
  ra : wr.heap[w.heap.size]? = some (.cells #[.int .i64 d.kind, .bool d.flag, .int .i64 d.num, .string d.text, .slice A4 d.keys.length c4, .slice A5 d.kids.length c5] 27 (0, 0))
  rk : wr.heap[w.heap.size + 1]? = some (.cells #[.int .i64 kid.kind, .bool kid.flag, .int .i64 kid.num, .string kid.text, .slice E4 kid.keys.length e4, .slice E5 kid.kids.length e5] 27 (0, 0))
  rz : wr.heap[w.heap.size + 2]? = some (.cells #[.int .i64 0, .bool false, .int .i64 0, .string ⟨#[]⟩, .slice none 0 0, .slice none 0 0] 27 (0, 0))
  ro : wr.heap[B]? = some (.cells #[.int .i64 6, .bool false, .int .i64 0, .string ⟨#[]⟩, .slice B4 nk b4, .slice B5 nv b5] 27 (0, 0))
  hk : K.length = nk
  hv : V.length = nv
  map : MapG n (B + 1) wr.heap.size wr K V (.slice B4 nk b4) (.slice B5 nv b5) ess F
  below : Below w.heap.size w wr
  lt : w.heap.size + 3 ≤ B
theorem own_heap {wr W : World} {base : Nat} {e : TypeId} {size n : Nat} {v : Value} {xs : List Value} (h : wr.ownsRow base e size v n xs) (he : W.heap = wr.heap) : W.ownsRow base e size v n xs := ownsRow_carry h (fun q _ => by rw [he])
theorem PutR.key {n B nk nv b4 b5 c4 c5 e4 e5 : Nat} {A4 A5 E4 E5 B4 B5 : Option Addr} {d kid : TreeD} {w wr : World} {K : List ByteArray} {V : List TreeD} {ess : List (List Value)} {F : Nat → Nat → Prop} {w1 : World} {g cap : Nat} {key : ByteArray} (h : PutR n d kid A4 c4 A5 c5 E4 e4 E5 e5 B w wr K V nk nv B4 b4 B5 b5 ess F) (hkey : key.size ≤ 9223372036854775807)
    (ho : w1.ownsRow (B + 1) 9 1 (.slice (some ⟨g, 0, none⟩) (nk + 1) cap) (nk + 1) (K.map Value.string ++ [.string key])) (hkeep : ∀ b, b < wr.heap.size → (Value.slice B4 nk b4).ownBlock ≠ some b → w1.heap[b]? = wr.heap[b]?) (hs : wr.heap.size ≤ w1.heap.size) (hb : Below w.heap.size w w1) (hat : (Value.slice B4 nk b4).ownBlock = some g ∨ wr.heap.size ≤ g) :
    w1.heap[B]? = some (.cells #[.int .i64 6, .bool false, .int .i64 0, .string ⟨#[]⟩, .slice B4 nk b4, .slice B5 nv b5] 27 (0, 0)) ∧ PutR n d kid A4 c4 A5 c5 E4 e4 E5 e5 B w (w1.setCell ⟨B, 4, none⟩ (.slice (some ⟨g, 0, none⟩) (nk + 1) cap)) (K ++ [key]) V (nk + 1) nv (some ⟨g, 0, none⟩) cap B5 b5 ess F := by
  have hl := row_lt h.ro
  have hlt := h.lt
  have hno : ∀ b, b ≤ B → (Value.slice B4 nk b4).ownBlock ≠ some b := fun b hb e => by have := (h.map.keys.lt b e).1; omega
  have hk4 := fun b (hb : b ≤ B) => hkeep b (by omega) (hno b hb)
  have hM := h.map.pushK (Nat.le_refl _) h.hk hkey ho hkeep hs hat
  refine ⟨(hk4 B (Nat.le_refl _)).trans h.ro, ?_, ?_, ?_, ?_, by rw [List.length_append, h.hk]; rfl, h.hv, hM.carry (by simp) (fun q h1 _ => Below.heap_setCell _ _ _ q (by simp; omega)), hb.setCell (by simp; omega) _, hlt⟩
  · exact (Below.heap_setCell _ _ _ _ (by simp; omega)).trans ((hk4 _ (by omega)).trans h.ra)
  · exact (Below.heap_setCell _ _ _ _ (by simp; omega)).trans ((hk4 _ (by omega)).trans h.rk)
  · exact (Below.heap_setCell _ _ _ _ (by simp; omega)).trans ((hk4 _ (by omega)).trans h.rz)
  · exact heap_setCell_same w1 B 4 _ _ _ ((hk4 B (Nat.le_refl _)).trans h.ro)
theorem PutR.kid {n B nk nv b4 b5 c4 c5 e4 e5 : Nat} {A4 A5 E4 E5 B4 B5 : Option Addr} {d kid : TreeD} {w wr : World} {K : List ByteArray} {V : List TreeD} {ess : List (List Value)} {F : Nat → Nat → Prop} {w9 w2 : World} {g cap : Nat} {t : TreeD} {es : List Value} (h : PutR n d kid A4 c4 A5 c5 E4 e4 E5 e5 B w wr K V nk nv B4 b4 B5 b5 ess F) (hk9 : ∀ b, b < wr.heap.size → w9.heap[b]? = wr.heap[b]?) (hs9 : wr.heap.size ≤ w9.heap.size) (ht : OwnT n (fun b => wr.heap.size ≤ b ∧ b < w9.heap.size) w9 t es)
    (ho : w2.ownsRow (B + 1) 27 6 (.slice (some ⟨g, 0, none⟩) (nv + 1) cap) (nv + 1) (ess.flatten ++ es)) (hkeep : ∀ b, b < w9.heap.size → (Value.slice B5 nv b5).ownBlock ≠ some b → w2.heap[b]? = w9.heap[b]?) (hs : w9.heap.size ≤ w2.heap.size) (hb : Below w.heap.size w w2) (hat : (Value.slice B5 nv b5).ownBlock = some g ∨ w9.heap.size ≤ g) :
    w2.heap[B]? = some (.cells #[.int .i64 6, .bool false, .int .i64 0, .string ⟨#[]⟩, .slice B4 nk b4, .slice B5 nv b5] 27 (0, 0)) ∧ ∃ F', PutR n d kid A4 c4 A5 c5 E4 e4 E5 e5 B w (w2.setCell ⟨B, 5, none⟩ (.slice (some ⟨g, 0, none⟩) (nv + 1) cap)) K (V ++ [t]) nk (nv + 1) B4 b4 (some ⟨g, 0, none⟩) cap (ess ++ [es]) F' := by
  have hl := row_lt h.ro
  have hlt := h.lt
  have hno : ∀ b, b ≤ B → (Value.slice B5 nv b5).ownBlock ≠ some b := fun b hb e => by have := (h.map.kids.lt b e).1; omega
  have hk4 := fun b (hb : b ≤ B) => (hkeep b (by omega) (hno b hb)).trans (hk9 b (by omega))
  have hM := (h.map.carry (Nat.le_refl _) (fun q _ hq => hk9 q hq)).pushL hs9 (by omega) h.hv ht (fun b hb => hb) ho hkeep hs hat
  refine ⟨(hk4 B (Nat.le_refl _)).trans h.ro, _, ?_, ?_, ?_, ?_, h.hk, by rw [List.length_append, h.hv]; rfl, hM.carry (by simp) (fun q h1 _ => Below.heap_setCell _ _ _ q (by simp; omega)), hb.setCell (by simp; omega) _, hlt⟩
  · exact (Below.heap_setCell _ _ _ _ (by simp; omega)).trans ((hk4 _ (by omega)).trans h.ra)
  · exact (Below.heap_setCell _ _ _ _ (by simp; omega)).trans ((hk4 _ (by omega)).trans h.rk)
  · exact (Below.heap_setCell _ _ _ _ (by simp; omega)).trans ((hk4 _ (by omega)).trans h.rz)
  · exact heap_setCell_same w2 B 5 _ _ _ ((hk4 B (Nat.le_refl _)).trans h.ro)
theorem putS_len (key : ByteArray) (kid : TreeD) (ks : List ByteArray) (vs : List TreeD) : ∀ i, (putS key kid ks vs i).ks.length = (putS key kid ks vs i).vs.length ∧ (putS key kid ks vs i).ks.length ≤ i + 1 ∧ ((putS key kid ks vs i).laid = false → (putS key kid ks vs i).ks.length ≤ i)
  | 0 => ⟨rfl, Nat.zero_le _, fun _ => Nat.le_refl _⟩
  | i + 1 => by
    obtain ⟨h1, h2, h3⟩ := putS_len key kid ks vs i
    rw [putS]
    split
    · unfold putOne
      generalize putS key kid ks vs i = st at *
      obtain ⟨l, K, V⟩ := st
      simp only at *
      repeat' split
      · rename_i c _
        simp at c
        have := h3 c.1
        refine ⟨by simp [h1], by simp; omega, fun h => by cases h⟩
      · rename_i c _
        simp at c
        have := h3 c.1
        refine ⟨by simp [h1], by simp; omega, fun h => by cases h⟩
      · exact ⟨h1, (show K.length ≤ i + 1 + 1 by omega), fun h => (show K.length ≤ i + 1 by have := h3 h; omega)⟩
      · exact ⟨by simp [h1], by simp; omega, fun h => by have := h3 h; simp; omega⟩
    · exact ⟨h1, by omega, fun h => by have := h3 h; omega⟩
end Go.Proofs.YtffelpdefjkeaaaGreatDoor
namespace Go.Proofs.YtffelpdefjkeaaaGreatDoor
open Go.RowKit Go.Lib
def PutP (n : Nat) (d : TreeD) (key : ByteArray) (kid : TreeD) (w : World) (e : Ending) (w' : World) : Prop :=
  ∃ cs', e = .returned (.tuple #[.agg cs'.toArray, .bool (putB (n + 1) d key kid)]) ∧ OwnT (n + 1) (fun q => w.heap.size ≤ q ∧ q < w'.heap.size) w' (putT (n + 1) d key kid) cs' ∧ Below w.heap.size w w'
theorem put_no {n : Nat} {d kid : TreeD} {key : ByteArray} {w wF : World} {C4 C5 : Option Addr} {n4 d4 n5 d5 : Nat} {k m : Int} {f : Bool} {t : ByteArray} (h : putB (n + 1) d key kid = false) (hO : OwnT (n + 1) (fun q => w.heap.size ≤ q ∧ q < wF.heap.size) wF d [.int .i64 k, .bool f, .int .i64 m, .string t, .slice C4 n4 d4, .slice C5 n5 d5]) (hb : Below w.heap.size w wF) :
    PutP n d key kid w (.returned (.tuple #[.agg #[.int .i64 k, .bool f, .int .i64 m, .string t, .slice C4 n4 d4, .slice C5 n5 d5], .bool false])) wF := by
  refine ⟨_, by rw [h], ?_, hb⟩
  unfold putT
  rw [if_neg (by rw [h]; decide)]
  exact hO
set_option maxHeartbeats 4000000 in
set_option maxRecDepth 20000 in
theorem c_put_kind (n : Nat) (d kid : TreeD) (cs es : List Value) (key : ByteArray) (w : World) (lo : Nat) (h : C_Tree (n + 1) lo w.heap.size w d cs) (hkd : C_Tree n lo w.heap.size w kid es) (_hkey : key.size ≤ 9223372036854775807) (_hz : sizeT (n + 1) d ≤ 1073741824) (_hkz : sizeT n kid ≤ 1048576) (hn : nTree (n + 1) d ≤ 1048576) (_hkn : nTree n kid ≤ 1048576) (hd : d.kind ≠ 6) : Calls Tryz.prog 79 #[.agg cs.toArray, .string key, .agg es.toArray] w (PutP n d key kid w) := by
  have HF := Lib.hid (show putB (n + 1) d key kid = false by unfold putB; rw [beq_eq_false_iff_ne.2 hd]; rfl)
  have hx : (d.kind != 6) = true := bne_iff_ne.2 hd
  obtain ⟨A4, c4, A5, c5, rfl⟩ := C_Tree.open h
  obtain ⟨E4, e4, E5, e5, rfl⟩ := C_Tree.open hkd
  have HC := Lib.hid h
  clear h hd
  go_enter Tryz.func79, Tryz.ntmps79
  go_wp2_with fail
  refine (all_l08 (n + 1) d _ _ lo (HC.out.now bel) hn).mono ?_
  rintro e wc ⟨cs1, rfl, hO, hbc⟩
  obtain ⟨C4, d4, C5, d5, rfl, -⟩ := hO.flat
  have Zc := (hbc.block (w.heap.size + 2) (by simp; try omega)).trans (heap_at (by simp))
  have zl := row_lt Zc
  obtain ⟨z0, z1, z2, z3, z4, z5, zf⟩ := row6 Zc
  have HO := Lib.hid hO
  have Bc : Below w.heap.size w wc := Below.trans bel (hbc.mono (by simp; try omega))
  have hzc := hbc.size
  simp at hzc
  clear Zc hO hbc
  go_wp2_with fail
  refine bodyPost_ret (v := .tuple #[.agg #[.int .i64 d.kind, .bool d.flag, .int .i64 d.num, .string d.text, .slice C4 d.keys.length d4, .slice C5 d.kids.length d5], .bool false]) (by simp only [results, Tryz.results79]; go_simp) rfl (put_no HF.out (HO.out.carry (fun b hb => Aside.block (S := fun b => b = w.heap.size + 2) (w := wc) (by repeat (first | (with_reducible exact Aside.refl _ _) | ((with_reducible refine aside_set ?_ ?_); (focus (simp; done))) | (with_reducible refine aside_alloc ?_))) b hb.2 (by have q1 := hb.1; (try simp at q1); omega)) (fun b hb => by have q1 := hb.1; have q2 := hb.2; (try simp at q1); (try simp at q2); (try simp); omega)) (Bc.trans (Aside.below (S := fun b => b = w.heap.size + 2) (by repeat (first | (with_reducible exact Aside.refl _ _) | ((with_reducible refine aside_set ?_ ?_); (focus (simp; done))) | (with_reducible refine aside_alloc ?_))) Bc.size (fun i hi => by omega))))
set_option maxHeartbeats 4000000 in
set_option maxRecDepth 20000 in
theorem c_put_not (n : Nat) (d kid : TreeD) (cs es : List Value) (key : ByteArray) (w : World) (lo : Nat) (h : C_Tree (n + 1) lo w.heap.size w d cs) (hkd : C_Tree n lo w.heap.size w kid es) (_hkey : key.size ≤ 9223372036854775807) (hz : sizeT (n + 1) d ≤ 1073741824) (_hkz : sizeT n kid ≤ 1048576) (hn : nTree (n + 1) d ≤ 1048576) (_hkn : nTree n kid ≤ 1048576) (hd : d.kind = 6) (ho : okT (n + 1) d = false) : Calls Tryz.prog 79 #[.agg cs.toArray, .string key, .agg es.toArray] w (PutP n d key kid w) := by
  have HF := Lib.hid (show putB (n + 1) d key kid = false by unfold putB; rw [ho, Bool.and_false]; rfl)
  have hx : (d.kind != 6) = false := by simp [hd]
  obtain ⟨A4, c4, A5, c5, rfl⟩ := C_Tree.open h
  obtain ⟨E4, e4, E5, e5, rfl⟩ := C_Tree.open hkd
  have HC := Lib.hid h
  have Ho := Lib.hid ho
  clear h hd ho
  go_enter Tryz.func79, Tryz.ntmps79
  go_wp2_with fail
  refine (c_spec_TreeOk (n + 1) d _ _ lo (HC.out.now bel) hz).mono ?_
  rintro e w1 ⟨rfl, hb1⟩
  rw [Ho.out]
  have HB1 := Lib.hid (Below.trans bel (hb1.mono (by simp; try omega)) : Below w.heap.size w w1)
  have hA := Lib.hid ((hb1.block w.heap.size (by simp; try omega)).trans ((Below.heap_alloc _ _ _ (by simp; try omega)).trans ((Below.heap_alloc _ _ _ (by simp; try omega)).trans (heap_at rfl))))
  have hZ := Lib.hid ((hb1.block (w.heap.size + 2) (by simp; try omega)).trans (heap_at (by simp)))
  have al := row_lt hA.out
  have zl1 := row_lt hZ.out
  have hB := HB1.out
  obtain ⟨a0, a1, a2, a3, a4, a5, af⟩ := row6 hA.out
  clear hb1
  go_wp2_with fail
  refine (all_l08 (n + 1) d _ _ lo (HC.out.now bel) hn).mono ?_
  rintro e wc ⟨cs1, rfl, hO, hbc⟩
  obtain ⟨C4, d4, C5, d5, rfl, -⟩ := hO.flat
  have Zc := (hbc.block (w.heap.size + 2) (row_lt hZ.out)).trans hZ.out
  have zl := row_lt Zc
  obtain ⟨z0, z1, z2, z3, z4, z5, zf⟩ := row6 Zc
  have HO := Lib.hid hO
  have Bc : Below w.heap.size w wc := HB1.out.trans (hbc.mono HB1.out.size)
  have hzc := hbc.size
  clear Zc hO hbc
  go_wp2_with fail
  refine bodyPost_ret (v := .tuple #[.agg #[.int .i64 d.kind, .bool d.flag, .int .i64 d.num, .string d.text, .slice C4 d.keys.length d4, .slice C5 d.kids.length d5], .bool false]) (by simp only [results, Tryz.results79]; go_simp) rfl (put_no HF.out (HO.out.carry (fun b hb => Aside.block (S := fun b => b = w.heap.size + 2) (w := wc) (by repeat (first | (with_reducible exact Aside.refl _ _) | ((with_reducible refine aside_set ?_ ?_); (focus (simp; done))) | (with_reducible refine aside_alloc ?_))) b hb.2 (by have q1 := hb.1; (try simp at q1); omega)) (fun b hb => by have q1 := hb.1; have q2 := hb.2; (try simp at q1); (try simp at q2); (try simp); omega)) (Bc.trans (Aside.below (S := fun b => b = w.heap.size + 2) (by repeat (first | (with_reducible exact Aside.refl _ _) | ((with_reducible refine aside_set ?_ ?_); (focus (simp; done))) | (with_reducible refine aside_alloc ?_))) Bc.size (fun i hi => by omega))))
end Go.Proofs.YtffelpdefjkeaaaGreatDoor
