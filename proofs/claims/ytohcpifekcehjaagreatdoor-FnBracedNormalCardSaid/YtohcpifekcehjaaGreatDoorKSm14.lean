/- Steps to FnBracedNormal. No conditions. -/
import Derived.Test.YtohcpifekcehjaaGreatDoorKSm13
import Derived.Test.YtohcpifekcehjaaGreatDoorKSm9
import Derived.Test.YtohcpifekcehjaaGreatDoorKSm11
import Derived.Test.YtohcpifekcehjaaGreatDoorKSm2
import Derived.Test.YtohcpifekcehjaaGreatDoorKSm1
import Derived.Laws.BitsLemmas
set_option maxHeartbeats 16000000
set_option maxRecDepth 20000
namespace Go.Proofs.YtohcpifekcehjaaGreatDoor
open Go.RowKit Go.Lib
structure PutSt where
 laid : Bool
 ks : List ByteArray
 vs : List TreeD
def putOne (key : ByteArray) (kid : TreeD) (st : PutSt) (k : ByteArray) (v : TreeD) : PutSt :=
 if !st.laid && !lessS k key then (if k = key then ⟨true, st.ks ++ [key], st.vs ++ [kid]⟩ else ⟨true, (st.ks ++ [key]) ++ [k], (st.vs ++ [kid]) ++ [v]⟩)
 else (if k = key then st else ⟨st.laid, st.ks ++ [k], st.vs ++ [v]⟩)
def putS (key : ByteArray) (kid : TreeD) (ks : List ByteArray) (vs : List TreeD) : Nat -> PutSt
 | 0 => ⟨false, [], []⟩
 | i + 1 => match ks[i]?, vs[i]? with | some k, some v => putOne key kid (putS key kid ks vs i) k v | _, _ => putS key kid ks vs i
theorem putS_next {key : ByteArray} {kid : TreeD} {ks : List ByteArray} {vs : List TreeD} {i : Nat} {k : ByteArray} {v : TreeD} (hk : ks[i]? = some k) (hv : vs[i]? = some v) : putS key kid ks vs (i + 1) = putOne key kid (putS key kid ks vs i) k v := by
 rw [putS, hk, hv]
def putE (key : ByteArray) (kid : TreeD) (st : PutSt) : PutSt := if st.laid then st else ⟨true, st.ks ++ [key], st.vs ++ [kid]⟩
def putD (d : TreeD) (key : ByteArray) (kid : TreeD) : TreeD := tMap (putE key kid (putS key kid d.keys d.kids d.keys.length)).ks (putE key kid (putS key kid d.keys d.kids d.keys.length)).vs
def putB (n : Nat) (d : TreeD) (key : ByteArray) (kid : TreeD) : Bool := d.kind == 6 && okT n d && okT n (putD d key kid)
def putT (n : Nat) (d : TreeD) (key : ByteArray) (kid : TreeD) : TreeD := if putB n d key kid = true then putD d key kid else d
structure PutI (key : ByteArray) (kid : TreeD) (ks : List ByteArray) (vs : List TreeD) (i : Nat) (st : PutSt) : Prop where
 len : st.ks.length = st.vs.length
 cnt : st.ks.length <= i + 1
 cnt0 : st.laid = false -> st.ks.length <= i
 sort : SortK st.ks
 mem : ∀ x ∈ st.ks, x = key ∨ x ∈ ks
 memv : ∀ x ∈ st.vs, x = kid ∨ x ∈ vs
 low : ∀ x ∈ st.ks, ∀ j k, i <= j -> ks[j]? = some k -> lessS x k = true
 yet : st.laid = false -> ∀ x ∈ st.ks, lessS x key = true
theorem sort_push {ks : List ByteArray} {k : ByteArray} (h : SortK ks) (hk : ∀ x ∈ ks, lessS x k = true) : SortK (ks ++ [k]) := by
 unfold SortK at *
 rw [List.pairwise_append]
 refine ⟨h, by simp, fun a ha b hb => ?_⟩
 simp at hb
 subst hb
 exact hk a ha
theorem sort_at {ks : List ByteArray} (h : SortK ks) {i j : Nat} {a b : ByteArray} (hij : i < j) (ha : ks[i]? = some a) (hb : ks[j]? = some b) : lessS a b = true := by
 obtain ⟨g1, g2⟩ := List.getElem?_eq_some_iff.1 ha
 obtain ⟨f1, f2⟩ := List.getElem?_eq_some_iff.1 hb
 have := List.pairwise_iff_getElem.1 h i j g1 f1 hij
 rw [g2, f2] at this
 exact this
theorem PutI.push {key : ByteArray} {kid : TreeD} {ks : List ByteArray} {vs : List TreeD} {i : Nat} {k : ByteArray} {v : TreeD} (hs : SortK ks) (hk : ks[i]? = some k) (hv : vs[i]? = some v) {l : Bool} {K : List ByteArray} {V : List TreeD}
  (h1 : K.length = V.length) (h2 : K.length <= i + 1) (h2' : l = false -> K.length <= i) (h3 : SortK K) (h4 : ∀ x ∈ K, x = key ∨ x ∈ ks) (h5 : ∀ x ∈ V, x = kid ∨ x ∈ vs) (h6 : ∀ x ∈ K, ∀ j k, i <= j -> ks[j]? = some k -> lessS x k = true) (h7 : l = false -> ∀ x ∈ K, lessS x key = true) (h8 : l = false -> lessS k key = true) :
  PutI key kid ks vs (i + 1) ⟨l, K ++ [k], V ++ [v]⟩ := by
 refine ⟨by simp [h1], by simp; omega, fun h => by have := h2' h; simp; omega, sort_push h3 (fun x hx => h6 x hx i k (Nat.le_refl _) hk), ?_, ?_, ?_, ?_⟩
 ·intro x hx
  rcases List.mem_append.1 hx with hx | hx
  ·exact h4 x hx
  ·simp at hx; subst hx; exact .inr (List.mem_of_getElem? hk)
 ·intro x hx
  rcases List.mem_append.1 hx with hx | hx
  ·exact h5 x hx
  ·simp at hx; subst hx; exact .inr (List.mem_of_getElem? hv)
 ·intro x hx j y hj hy
  rcases List.mem_append.1 hx with hx | hx
  ·exact h6 x hx j y (by omega) hy
  ·simp at hx; subst hx; exact sort_at hs (by omega) hk hy
 ·intro hl x hx
  rcases List.mem_append.1 hx with hx | hx
  ·exact h7 hl x hx
  ·simp at hx; subst hx; exact h8 hl
theorem PutI.step {key : ByteArray} {kid : TreeD} {ks : List ByteArray} {vs : List TreeD} {i : Nat} {k : ByteArray} {v : TreeD} (hs : SortK ks) (hk : ks[i]? = some k) (hv : vs[i]? = some v) {st : PutSt} (h : PutI key kid ks vs i st) : PutI key kid ks vs (i + 1) (putOne key kid st k v) := by
 obtain ⟨l, K, V⟩ := st
 obtain ⟨h1, h2, h2', h3, h4, h5, h6, h7⟩ := h
 unfold putOne
 dsimp only at *
 by_cases c : (!l && !lessS k key) = true
 ·rw [if_pos c]
  simp at c
  obtain ⟨rfl, c⟩ := c
  have h2 := h2' rfl
  have h7 := h7 rfl
  have hmem : ∀ x ∈ K ++ [key], x = key ∨ x ∈ ks := fun x hx => by
   rcases List.mem_append.1 hx with hx | hx
   ·exact h4 x hx
   ·simp at hx; exact .inl hx
  have hmv : ∀ x ∈ V ++ [kid], x = kid ∨ x ∈ vs := fun x hx => by
   rcases List.mem_append.1 hx with hx | hx
   ·exact h5 x hx
   ·simp at hx; exact .inl hx
  by_cases e : k = key
  ·rw [if_pos e]
   subst e
   refine ⟨by simp [h1], by simp; omega, fun h => ((by cases h)), sort_push h3 h7, hmem, hmv, ?_, fun h => ((by cases h))⟩
   intro x hx j y hj hy
   rcases List.mem_append.1 hx with hx | hx
   ·exact h6 x hx j y (by omega) hy
   ·simp at hx; subst hx; exact sort_at hs (by omega) hk hy
  ·rw [if_neg e]
   have hlt : lessS key k = true := lessS_other c e
   refine PutI.push hs hk hv (by simp [h1]) (by simp; omega) (fun h => (by cases h)) (sort_push h3 h7) hmem hmv ?_ (fun h => (by cases h)) (fun h => (by cases h))
   intro x hx j y hj hy
   rcases List.mem_append.1 hx with hx | hx
   ·exact h6 x hx j y hj hy
   ·simp at hx
    subst hx
    rcases Nat.eq_or_lt_of_le hj with rfl | hj
    ·rw [hk] at hy; cases hy; exact hlt
    ·exact lessS_trans3 hlt (sort_at hs hj hk hy)
 ·rw [if_neg c]
  by_cases e : k = key
  ·rw [if_pos e]
   exact ⟨h1, (show K.length <= i + 1 + 1 by omega), fun h => (show K.length <= i + 1 by have := h2' h; omega), h3, h4, h5, fun x hx j y hj hy => h6 x hx j y (by omega) hy, h7⟩
  ·rw [if_neg e]
   refine PutI.push hs hk hv h1 h2 h2' h3 h4 h5 h6 h7 (fun hl => ?_)
   subst hl
   simpa using c
theorem putS_inv {key : ByteArray} {kid : TreeD} {ks : List ByteArray} {vs : List TreeD} (hs : SortK ks) (hl : ks.length = vs.length) : ∀ i, i <= ks.length -> PutI key kid ks vs i (putS key kid ks vs i)
 | 0, _ => ⟨rfl, Nat.zero_le _, fun _ => Nat.le_refl _, List.Pairwise.nil, fun x hx => ((by cases hx)), fun x hx => ((by cases hx)), fun x hx => ((by cases hx)), fun _ x hx => ((by cases hx))⟩
 | i + 1, hi => by
  obtain ⟨k, hk⟩ := exists_at (show i < ks.length by omega)
  obtain ⟨v, hv⟩ := exists_at (show i < vs.length by omega)
  rw [putS_next hk hv]
  exact (putS_inv hs hl i (by omega)).step hs hk hv
structure Maps (key : ByteArray) (kid : TreeD) (ks : List ByteArray) (vs : List TreeD) (K : List ByteArray) (V : List TreeD) : Prop where
 len : K.length = V.length
 cnt : K.length <= ks.length + 1
 sort : SortK K
 mem : ∀ x ∈ K, x = key ∨ x ∈ ks
 memv : ∀ x ∈ V, x = kid ∨ x ∈ vs
theorem putE_maps {key : ByteArray} {kid : TreeD} {ks : List ByteArray} {vs : List TreeD} {st : PutSt} (h : PutI key kid ks vs ks.length st) : Maps key kid ks vs (putE key kid st).ks (putE key kid st).vs := by
 obtain ⟨l, K, V⟩ := st
 obtain ⟨h1, h2, h2', h3, h4, h5, h6, h7⟩ := h
 unfold putE
 dsimp only at *
 cases l with
 | true => exact ⟨h1, h2, h3, h4, h5⟩
 | false =>
  have := h2' rfl
  refine ⟨by simp [h1], by simp; omega, sort_push h3 (h7 rfl), fun x hx => ?_, fun x hx => ?_⟩
  ·rcases List.mem_append.1 hx with hx | hx
   ·exact h4 x hx
   ·simp at hx; exact .inl hx
  ·rcases List.mem_append.1 hx with hx | hx
   ·exact h5 x hx
   ·simp at hx; exact .inl hx
theorem putD_maps {d : TreeD} (key : ByteArray) (kid : TreeD) (hs : SortK d.keys) (hl : d.keys.length = d.kids.length) : ∃ K V, putD d key kid = tMap K V /\ Maps key kid d.keys d.kids K V :=
 ⟨_, _, rfl, putE_maps (putS_inv hs hl _ (Nat.le_refl _))⟩
def szB : Nat -> Nat
 | 0 => 0
 | k + 1 => 1 + 4 * szB k
def syB : Nat -> Nat
 | 0 => 0
 | 1 => 122
 | k + 2 => 2 + 4 * (124 + syB (k + 1))
def ceB : Nat -> Nat
 | 0 => 0
 | k + 1 => 120 + 4 * ceB k
theorem word_none : WordOk ⟨#[]⟩ := word_low (by decide) (by decide)
def WordT : Nat -> TreeD -> Prop
 | 0, _ => False
 | k + 1, d => WordOk d.text /\ (∀ x ∈ d.keys, WordOk x) /\ d.kids.length <= 4 /\ ∀ t ∈ d.kids, WordT k t
structure Drawn (k : Nat) (d : TreeD) : Prop where
 shape : shapeT k d = true
 num : numT k d
 size : sizeT k d <= szB k
 say : (sayL k d).length <= syB k
 cells : nTree k d <= ceB k
 word : WordT k d
theorem depth_le : ∀ (k : Nat) (d : TreeD), depthT k d <= k
 | 0, _ => Nat.le_refl _
 | k + 1, d => by
  rw [depthT_succ]
  have := mxL_le (f := depthT k) (b := k) (l := d.kids) (fun x _ => depth_le k x)
  omega
theorem Drawn.ok {k : Nat} {d : TreeD} (h : Drawn k d) (hk : k <= 4) : okT k d = true := by
 have h1 := depth_le k d
 have h2 := h.size
 have h3 : szB k <= szB 4 := by
  rcases (show k = 0 ∨ k = 1 ∨ k = 2 ∨ k = 3 ∨ k = 4 by omega) with rfl | rfl | rfl | rfl | rfl <;> decide
 have h4 : szB 4 = 85 := rfl
 rw [okT_def, h.shape, decide_eq_true (by omega), decide_eq_true (by omega)]
 rfl
theorem szL_leB {D : Type} {f : D -> Nat} {B : Nat} : ∀ {l : List D}, (∀ x ∈ l, f x <= B) -> szL f l <= l.length * B
 | [], _ => Nat.zero_le _
 | x :: l, h => by
  have h1 := h x (by simp)
  have h2 := szL_leB (f := f) (B := B) (l := l) (fun y hy => h y (by simp [hy]))
  simp only [szL, List.length_cons, Nat.add_mul, Nat.one_mul]
  omega
theorem syB_pos (k : Nat) : 122 <= syB (k + 1) := by
 cases k with
 | zero => exact Nat.le_refl _
 | succ k => unfold syB; omega
theorem drawn_leaf {k : Nat} {t : TreeD} (h1 : badH t = false) (h2 : WordOk t.text) (h3 : lensOk t = true) (h4 : t.keys = []) (h5 : t.kids = []) (h6 : I64 t.num) (h7 : (sayL (k + 1) t).length <= 122) : Drawn (k + 1) t := by
 have h := leaf_ok (N := k) (d := 1) (by omega) h1 h2.str h3 h4 h5 h6
 refine ⟨h.1.shape, h.1.num, ?_, Nat.le_trans h7 (syB_pos k), ?_, h2, fun x hx => (by rw [h4] at hx; cases hx), by rw [h5]; exact Nat.zero_le _, fun x hx => (by rw [h5] at hx; cases hx)⟩
 ·rw [h.2]; unfold szB; omega
 ·rw [nTree_succ, h4, h5]
  have := h2.2
  simp only [nL, szL, List.length_nil]
  unfold ceB
  omega
theorem mul4 {m B : Nat} (h : m <= 4) : m * B <= 4 * B := Nat.mul_le_mul_right B h
theorem drawn_list {k : Nat} {l : List TreeD} (hl : l.length <= 4) (h : ∀ t ∈ l, Drawn (k + 1) t) : Drawn (k + 2) (tList l) := by
 have hs : badH (tList l) = false := by unfold badH tList inB; simp
 have m1 := szL_leB (f := sizeT (k + 1)) (B := szB (k + 1)) (l := l) (fun x hx => (h x hx).size)
 have m2 := szL_leB (f := nTree (k + 1)) (B := ceB (k + 1)) (l := l) (fun x hx => (h x hx).cells)
 have m3 := szL_leB (f := fun t => (sayL (k + 1) t).length + 1) (B := syB (k + 1) + 1) (l := l) (fun x hx => by have := (h x hx).say; omega)
 have q1 := mul4 (B := szB (k + 1)) hl
 have q2 := mul4 (B := ceB (k + 1)) hl
 have q3 := mul4 (B := syB (k + 1) + 1) hl
 refine ⟨shape_mk hs strB_empty rfl (fun i hi => by simp [tList] at hi) (fun t ht => (h t ht).shape), ⟨(show I64 0 from by unfold I64; decide), fun t ht => (h t ht).num⟩, ?_, ?_, ?_, word_none, fun x hx => (by cases hx), hl, fun t ht => (h t ht).word⟩
 ·rw [sizeT_succ]
  show 1 + szL (sizeT (k + 1)) l <= 1 + 4 * szB (k + 1)
  omega
 ·by_cases hne : l = []
  ·subst hne
   show 2 <= 2 + 4 * (124 + syB (k + 1))
   omega
  ·rw [list_len hne]
   show _ <= 2 + 4 * (124 + syB (k + 1))
   omega
 ·rw [nTree_succ]
  show (⟨#[]⟩ : ByteArray).size + nL ByteArray.size [] + nL (nTree (k + 1)) l <= 120 + 4 * ceB (k + 1)
  have e0 : (⟨#[]⟩ : ByteArray).size = 0 := rfl
  simp only [nL, szL, List.length_nil]
  omega
structure MapD (k m : Nat) (ks : List ByteArray) (l : List TreeD) : Prop where
 len : ks.length = l.length
 cnt : ks.length <= m
 sort : SortK ks
 word : ∀ x ∈ ks, WordOk x
 kid : ∀ t ∈ l, Drawn k t
theorem MapD.nil (k : Nat) : MapD k 0 [] [] := ⟨rfl, Nat.le_refl _, List.Pairwise.nil, fun x hx => ((by cases hx)), fun x hx => ((by cases hx))⟩
theorem drawn_map {k : Nat} {ks : List ByteArray} {l : List TreeD} (h : MapD (k + 1) 4 ks l) : Drawn (k + 2) (tMap ks l) := by
 obtain ⟨hlen, hcnt, hsort, hword, hkid⟩ := h
 have hl : l.length <= 4 := by omega
 have hs : badH (tMap ks l) = false := by unfold badH tMap inB; simp
 have m1 := szL_leB (f := sizeT (k + 1)) (B := szB (k + 1)) (l := l) (fun x hx => (hkid x hx).size)
 have m2 := szL_leB (f := nTree (k + 1)) (B := ceB (k + 1)) (l := l) (fun x hx => (hkid x hx).cells)
 have m3 := szL_leB (f := fun t => (sayL (k + 1) t).length + 1) (B := syB (k + 1) + 1) (l := l) (fun x hx => by have := (hkid x hx).say; omega)
 have m4 := szL_leB (f := qlen) (B := 123) (l := ks) (fun x hx => by have := (hword x hx).quote; unfold qlen; omega)
 have m5 := szL_leB (f := ByteArray.size) (B := 20) (l := ks) (fun x hx => (hword x hx).2)
 have q1 := mul4 (B := szB (k + 1)) hl
 have q2 := mul4 (B := ceB (k + 1)) hl
 have q3 := mul4 (B := syB (k + 1) + 1) hl
 refine ⟨shape_mk hs strB_empty (by unfold lensOk tMap; simp [hlen]) (keys_ok hsort (fun x hx => (hword x hx).str)) (fun t ht => (hkid t ht).shape), ⟨(show I64 0 from by unfold I64; decide), fun t ht => (hkid t ht).num⟩, ?_, ?_, ?_, word_none, hword, hl, fun t ht => (hkid t ht).word⟩
 ·rw [sizeT_succ]
  show 1 + szL (sizeT (k + 1)) l <= 1 + 4 * szB (k + 1)
  omega
 ·by_cases hne : l = []
  ·subst hne
   show 2 <= 2 + 4 * (124 + syB (k + 1))
   omega
  ·rw [map_len hne hlen]
   show _ <= 2 + 4 * (124 + syB (k + 1))
   omega
 ·rw [nTree_succ]
  show (⟨#[]⟩ : ByteArray).size + nL ByteArray.size ks + nL (nTree (k + 1)) l <= 120 + 4 * ceB (k + 1)
  have e0 : (⟨#[]⟩ : ByteArray).size = 0 := rfl
  simp only [nL]
  omega
theorem MapD.more {k m m' : Nat} {ks : List ByteArray} {l : List TreeD} (h : MapD k m ks l) (hm : m <= m') : MapD k m' ks l := ⟨h.len, Nat.le_trans h.cnt hm, h.sort, h.word, h.kid⟩
theorem MapD.put {k m n : Nat} {ks : List ByteArray} {l : List TreeD} {key : ByteArray} {kid : TreeD} (h : MapD k m ks l) (hk : WordOk key) (ht : Drawn k kid) : ∃ K V, putT n (tMap ks l) key kid = tMap K V /\ MapD k (m + 1) K V := by
 unfold putT
 by_cases c : putB n (tMap ks l) key kid = true
 ·rw [if_pos c]
  obtain ⟨K, V, h1, h2⟩ := putD_maps (d := tMap ks l) key kid h.sort h.len
  refine ⟨K, V, h1, h2.len, Nat.le_trans h2.cnt (Nat.add_le_add_right h.cnt 1), h2.sort, fun x hx => ?_, fun x hx => ?_⟩
  ·rcases h2.mem x hx with rfl | hx
   ·exact hk
   ·exact h.word x hx
  ·rcases h2.memv x hx with rfl | hx
   ·exact ht
   ·exact h.kid x hx
 ·rw [if_neg c]
  exact ⟨ks, l, rfl, h.more (Nat.le_add_right _ _)⟩
theorem Drawn.fits {k : Nat} {d : TreeD} (h : Drawn k d) (hk : k <= 4) : nTree k d <= 1048576 /\ sizeT k d <= 1073741824 /\ (sayL k d).length <= 18266 := by
 have h2 := h.size
 have h3 := h.cells
 have h4 := h.say
 rcases (show k = 0 ∨ k = 1 ∨ k = 2 ∨ k = 3 ∨ k = 4 by omega) with rfl | rfl | rfl | rfl | rfl
 ·exact ⟨Nat.le_trans h3 (by decide), Nat.le_trans h2 (by decide), Nat.le_trans h4 (by decide)⟩
 ·exact ⟨Nat.le_trans h3 (by decide), Nat.le_trans h2 (by decide), Nat.le_trans h4 (by decide)⟩
 ·exact ⟨Nat.le_trans h3 (by decide), Nat.le_trans h2 (by decide), Nat.le_trans h4 (by decide)⟩
 ·exact ⟨Nat.le_trans h3 (by decide), Nat.le_trans h2 (by decide), Nat.le_trans h4 (by decide)⟩
 ·exact ⟨Nat.le_trans h3 (by decide), Nat.le_trans h2 (by decide), Nat.le_trans h4 (by decide)⟩
structure PutR (n : Nat) (d kid : TreeD) (A4 : Option Addr) (c4 : Nat) (A5 : Option Addr) (c5 : Nat) (E4 : Option Addr) (e4 : Nat) (E5 : Option Addr) (e5 : Nat) (B : Nat) (w wr : World) (K : List ByteArray) (V : List TreeD) (nk nv : Nat) (B4 : Option Addr) (b4 : Nat) (B5 : Option Addr) (b5 : Nat) (ess : List (List Value)) (F : Nat -> Nat -> Prop) : Prop where
 ra : wr.heap[w.heap.size]? = some (.cells #[.int .i64 d.kind, .bool d.flag, .int .i64 d.num, .string d.text, .slice A4 d.keys.length c4, .slice A5 d.kids.length c5] 34 (0, 0))
 rk : wr.heap[w.heap.size + 1]? = some (.cells #[.int .i64 kid.kind, .bool kid.flag, .int .i64 kid.num, .string kid.text, .slice E4 kid.keys.length e4, .slice E5 kid.kids.length e5] 34 (0, 0))
 rz : wr.heap[w.heap.size + 2]? = some (.cells #[.int .i64 0, .bool false, .int .i64 0, .string ⟨#[]⟩, .slice none 0 0, .slice none 0 0] 34 (0, 0))
 ro : wr.heap[B]? = some (.cells #[.int .i64 6, .bool false, .int .i64 0, .string ⟨#[]⟩, .slice B4 nk b4, .slice B5 nv b5] 34 (0, 0))
 hk : K.length = nk
 hv : V.length = nv
 map : MapG n (B + 1) wr.heap.size wr K V (.slice B4 nk b4) (.slice B5 nv b5) ess F
 below : Below w.heap.size w wr
 lt : w.heap.size + 3 <= B
theorem own_heap {wr W : World} {base : Nat} {e : TypeId} {size n : Nat} {v : Value} {xs : List Value} (h : wr.ownsRow base e size v n xs) (he : W.heap = wr.heap) : W.ownsRow base e size v n xs := ownsRow_carry h (fun q _ => by rw [he])
theorem PutR.key {n B nk nv b4 b5 c4 c5 e4 e5 : Nat} {A4 A5 E4 E5 B4 B5 : Option Addr} {d kid : TreeD} {w wr : World} {K : List ByteArray} {V : List TreeD} {ess : List (List Value)} {F : Nat -> Nat -> Prop} {w1 : World} {g cap : Nat} {key : ByteArray} (h : PutR n d kid A4 c4 A5 c5 E4 e4 E5 e5 B w wr K V nk nv B4 b4 B5 b5 ess F) (hkey : key.size <= 9223372036854775807)
  (ho : w1.ownsRow (B + 1) 9 1 (.slice (some ⟨g, 0, none⟩) (nk + 1) cap) (nk + 1) (K.map Value.string ++ [.string key])) (hkeep : ∀ b, b < wr.heap.size -> (Value.slice B4 nk b4).ownBlock ≠ some b -> w1.heap[b]? = wr.heap[b]?) (hs : wr.heap.size <= w1.heap.size) (hb : Below w.heap.size w w1) (hat : (Value.slice B4 nk b4).ownBlock = some g ∨ wr.heap.size <= g) :
  w1.heap[B]? = some (.cells #[.int .i64 6, .bool false, .int .i64 0, .string ⟨#[]⟩, .slice B4 nk b4, .slice B5 nv b5] 34 (0, 0)) /\ PutR n d kid A4 c4 A5 c5 E4 e4 E5 e5 B w (w1.setCell ⟨B, 4, none⟩ (.slice (some ⟨g, 0, none⟩) (nk + 1) cap)) (K ++ [key]) V (nk + 1) nv (some ⟨g, 0, none⟩) cap B5 b5 ess F := by
 have hl := row_lt h.ro
 have hlt := h.lt
 have hno : ∀ b, b <= B -> (Value.slice B4 nk b4).ownBlock ≠ some b := fun b hb e => by have := (h.map.keys.lt b e).1; omega
 have hk4 := fun b (hb : b <= B) => hkeep b (by omega) (hno b hb)
 have hM := h.map.pushK (Nat.le_refl _) h.hk hkey ho hkeep hs hat
 refine ⟨(hk4 B (Nat.le_refl _)).trans h.ro, ?_, ?_, ?_, ?_, by rw [List.length_append, h.hk]; rfl, h.hv, hM.carry (by simp) (fun q h1 _ => Below.heap_setCell _ _ _ q (by simp; omega)), hb.setCell (by simp; omega) _, hlt⟩
 ·exact (Below.heap_setCell _ _ _ _ (by simp; omega)).trans ((hk4 _ (by omega)).trans h.ra)
 ·exact (Below.heap_setCell _ _ _ _ (by simp; omega)).trans ((hk4 _ (by omega)).trans h.rk)
 ·exact (Below.heap_setCell _ _ _ _ (by simp; omega)).trans ((hk4 _ (by omega)).trans h.rz)
 ·exact heap_setCell_same w1 B 4 _ _ _ ((hk4 B (Nat.le_refl _)).trans h.ro)
theorem PutR.kid {n B nk nv b4 b5 c4 c5 e4 e5 : Nat} {A4 A5 E4 E5 B4 B5 : Option Addr} {d kid : TreeD} {w wr : World} {K : List ByteArray} {V : List TreeD} {ess : List (List Value)} {F : Nat -> Nat -> Prop} {w9 w2 : World} {g cap : Nat} {t : TreeD} {es : List Value} (h : PutR n d kid A4 c4 A5 c5 E4 e4 E5 e5 B w wr K V nk nv B4 b4 B5 b5 ess F) (hk9 : ∀ b, b < wr.heap.size -> w9.heap[b]? = wr.heap[b]?) (hs9 : wr.heap.size <= w9.heap.size) (ht : OwnT n (fun b => wr.heap.size <= b /\ b < w9.heap.size) w9 t es)
  (ho : w2.ownsRow (B + 1) 34 6 (.slice (some ⟨g, 0, none⟩) (nv + 1) cap) (nv + 1) (ess.flatten ++ es)) (hkeep : ∀ b, b < w9.heap.size -> (Value.slice B5 nv b5).ownBlock ≠ some b -> w2.heap[b]? = w9.heap[b]?) (hs : w9.heap.size <= w2.heap.size) (hb : Below w.heap.size w w2) (hat : (Value.slice B5 nv b5).ownBlock = some g ∨ w9.heap.size <= g) :
  w2.heap[B]? = some (.cells #[.int .i64 6, .bool false, .int .i64 0, .string ⟨#[]⟩, .slice B4 nk b4, .slice B5 nv b5] 34 (0, 0)) /\ ∃ F', PutR n d kid A4 c4 A5 c5 E4 e4 E5 e5 B w (w2.setCell ⟨B, 5, none⟩ (.slice (some ⟨g, 0, none⟩) (nv + 1) cap)) K (V ++ [t]) nk (nv + 1) B4 b4 (some ⟨g, 0, none⟩) cap (ess ++ [es]) F' := by
 have hl := row_lt h.ro
 have hlt := h.lt
 have hno : ∀ b, b <= B -> (Value.slice B5 nv b5).ownBlock ≠ some b := fun b hb e => by have := (h.map.kids.lt b e).1; omega
 have hk4 := fun b (hb : b <= B) => (hkeep b (by omega) (hno b hb)).trans (hk9 b (by omega))
 have hM := (h.map.carry (Nat.le_refl _) (fun q _ hq => hk9 q hq)).pushL hs9 (by omega) h.hv ht (fun b hb => hb) ho hkeep hs hat
 refine ⟨(hk4 B (Nat.le_refl _)).trans h.ro, _, ?_, ?_, ?_, ?_, h.hk, by rw [List.length_append, h.hv]; rfl, hM.carry (by simp) (fun q h1 _ => Below.heap_setCell _ _ _ q (by simp; omega)), hb.setCell (by simp; omega) _, hlt⟩
 ·exact (Below.heap_setCell _ _ _ _ (by simp; omega)).trans ((hk4 _ (by omega)).trans h.ra)
 ·exact (Below.heap_setCell _ _ _ _ (by simp; omega)).trans ((hk4 _ (by omega)).trans h.rk)
 ·exact (Below.heap_setCell _ _ _ _ (by simp; omega)).trans ((hk4 _ (by omega)).trans h.rz)
 ·exact heap_setCell_same w2 B 5 _ _ _ ((hk4 B (Nat.le_refl _)).trans h.ro)
theorem putS_len (key : ByteArray) (kid : TreeD) (ks : List ByteArray) (vs : List TreeD) : ∀ i, (putS key kid ks vs i).ks.length = (putS key kid ks vs i).vs.length /\ (putS key kid ks vs i).ks.length <= i + 1 /\ ((putS key kid ks vs i).laid = false -> (putS key kid ks vs i).ks.length <= i)
 | 0 => ⟨rfl, Nat.zero_le _, fun _ => Nat.le_refl _⟩
 | i + 1 => by
  obtain ⟨h1, h2, h3⟩ := putS_len key kid ks vs i
  rw [putS]
  split
  ·unfold putOne
   generalize putS key kid ks vs i = st at *
   obtain ⟨l, K, V⟩ := st
   simp only at *
   repeat' split
   ·rename_i c _
    simp at c
    have := h3 c.1
    refine ⟨by simp [h1], by simp; omega, fun h => by cases h⟩
   ·rename_i c _
    simp at c
    have := h3 c.1
    refine ⟨by simp [h1], by simp; omega, fun h => by cases h⟩
   ·exact ⟨h1, (show K.length <= i + 1 + 1 by omega), fun h => (show K.length <= i + 1 by have := h3 h; omega)⟩
   ·exact ⟨by simp [h1], by simp; omega, fun h => by have := h3 h; simp; omega⟩
  ·exact ⟨h1, by omega, fun h => by have := h3 h; omega⟩
def PutP (n : Nat) (d : TreeD) (key : ByteArray) (kid : TreeD) (w : World) (e : Ending) (w' : World) : Prop :=
 ∃ cs', e = .returned (.tuple #[.agg cs'.toArray, .bool (putB (n + 1) d key kid)]) /\ OwnT (n + 1) (fun q => w.heap.size <= q /\ q < w'.heap.size) w' (putT (n + 1) d key kid) cs' /\ Below w.heap.size w w'
theorem put_no {n : Nat} {d kid : TreeD} {key : ByteArray} {w wF : World} {C4 C5 : Option Addr} {n4 d4 n5 d5 : Nat} {k m : Int} {f : Bool} {t : ByteArray} (h : putB (n + 1) d key kid = false) (hO : OwnT (n + 1) (fun q => w.heap.size <= q /\ q < wF.heap.size) wF d [.int .i64 k, .bool f, .int .i64 m, .string t, .slice C4 n4 d4, .slice C5 n5 d5]) (hb : Below w.heap.size w wF) :
  PutP n d key kid w (.returned (.tuple #[.agg #[.int .i64 k, .bool f, .int .i64 m, .string t, .slice C4 n4 d4, .slice C5 n5 d5], .bool false])) wF := by
 refine ⟨_, by rw [h], ?_, hb⟩
 unfold putT
 rw [if_neg (by rw [h]; decide)]
 exact hO
theorem c_put_kind (n : Nat) (d kid : TreeD) (cs es : List Value) (key : ByteArray) (w : World) (lo : Nat) (h : C_Tree (n + 1) lo w.heap.size w d cs) (hkd : C_Tree n lo w.heap.size w kid es) (_hkey : key.size <= 9223372036854775807) (_hz : sizeT (n + 1) d <= 1073741824) (_hkz : sizeT n kid <= 1048576) (hn : nTree (n + 1) d <= 1048576) (_hkn : nTree n kid <= 1048576) (hd : d.kind ≠ 6) : Calls Tryz.prog 149 #[.agg cs.toArray, .string key, .agg es.toArray] w (PutP n d key kid w) := by
 have HF := hid (show putB (n + 1) d key kid = false by unfold putB; rw [beq_eq_false_iff_ne.2 hd]; rfl)
 have hx : (d.kind != 6) = true := bne_iff_ne.2 hd
 obtain ⟨A4, c4, A5, c5, rfl⟩ := C_Tree.open h
 obtain ⟨E4, e4, E5, e5, rfl⟩ := C_Tree.open hkd
 have HC := hid h
 clear h hd
 go_enter Tryz.func149, Tryz.ntmps149
 go_wp2_with fail
 refine (all_l08 (n + 1) d _ _ lo (HC.out.now bel) hn).mono ?_
 rintro e wc ⟨cs1, rfl, hO, hbc⟩
 obtain ⟨C4, d4, C5, d5, rfl, -⟩ := hO.flat
 have Zc := (hbc.block (w.heap.size + 2) (by simp; try omega)).trans (heap_at (by simp))
 have zl := row_lt Zc
 obtain ⟨z0, z1, z2, z3, z4, z5, zf⟩ := row6 Zc
 have HO := hid hO
 have Bc : Below w.heap.size w wc := Below.trans bel (hbc.mono (by simp; try omega))
 have hzc := hbc.size
 simp at hzc
 clear Zc hO hbc
 go_wp2_with fail
 refine bodyPost_ret (v := .tuple #[.agg #[.int .i64 d.kind, .bool d.flag, .int .i64 d.num, .string d.text, .slice C4 d.keys.length d4, .slice C5 d.kids.length d5], .bool false]) (by simp only [results, Tryz.results149]; go_simp) rfl (put_no HF.out (HO.out.carry (fun b hb => Aside.block (S := fun b => b = w.heap.size + 2) (w := wc) asd b hb.2 (by have q1 := hb.1; (try simp at q1); omega)) (fun b hb => by have q1 := hb.1; have q2 := hb.2; (try simp at q1); (try simp at q2); (try simp); omega)) (Bc.trans (Aside.below (S := fun b => b = w.heap.size + 2) asd Bc.size (fun i hi => by omega))))
theorem c_put_not (n : Nat) (d kid : TreeD) (cs es : List Value) (key : ByteArray) (w : World) (lo : Nat) (h : C_Tree (n + 1) lo w.heap.size w d cs) (hkd : C_Tree n lo w.heap.size w kid es) (_hkey : key.size <= 9223372036854775807) (hz : sizeT (n + 1) d <= 1073741824) (_hkz : sizeT n kid <= 1048576) (hn : nTree (n + 1) d <= 1048576) (_hkn : nTree n kid <= 1048576) (hd : d.kind = 6) (ho : okT (n + 1) d = false) : Calls Tryz.prog 149 #[.agg cs.toArray, .string key, .agg es.toArray] w (PutP n d key kid w) := by
 have HF := hid (show putB (n + 1) d key kid = false by unfold putB; rw [ho, Bool.and_false]; rfl)
 have hx : (d.kind != 6) = false := by simp [hd]
 obtain ⟨A4, c4, A5, c5, rfl⟩ := C_Tree.open h
 obtain ⟨E4, e4, E5, e5, rfl⟩ := C_Tree.open hkd
 have HC := hid h
 have Ho := hid ho
 clear h hd ho
 go_enter Tryz.func149, Tryz.ntmps149
 go_wp2_with fail
 refine (c_spec_TreeOk (n + 1) d _ _ lo (HC.out.now bel) hz).mono ?_
 rintro e w1 ⟨rfl, hb1⟩
 rw [Ho.out]
 have HB1 := hid (Below.trans bel (hb1.mono (by simp; try omega)) : Below w.heap.size w w1)
 have hA := hid ((hb1.block w.heap.size (by simp; try omega)).trans ((Below.heap_alloc _ _ _ (by simp; try omega)).trans ((Below.heap_alloc _ _ _ (by simp; try omega)).trans (heap_at rfl))))
 have hZ := hid ((hb1.block (w.heap.size + 2) (by simp; try omega)).trans (heap_at (by simp)))
 have al := row_lt hA.out
 have zl1 := row_lt hZ.out
 have hB := HB1.out
 obtain ⟨a0, a1, a2, a3, a4, a5, af⟩ := row6 hA.out
 clear hb1
 go_wp2_with fail
 refine (all_l08 (n + 1) d _ _ lo (HC.out.now bel) hn).mono ?_
 rintro e wc ⟨cs1, rfl, hO, hbc⟩
 obtain ⟨C4, d4, C5, d5, rfl, -⟩ := hO.flat
 have Zc := (hbc.block (w.heap.size + 2) (row_lt hZ.out)).trans hZ.out
 have zl := row_lt Zc
 obtain ⟨z0, z1, z2, z3, z4, z5, zf⟩ := row6 Zc
 have HO := hid hO
 have Bc : Below w.heap.size w wc := HB1.out.trans (hbc.mono HB1.out.size)
 have hzc := hbc.size
 clear Zc hO hbc
 go_wp2_with fail
 refine bodyPost_ret (v := .tuple #[.agg #[.int .i64 d.kind, .bool d.flag, .int .i64 d.num, .string d.text, .slice C4 d.keys.length d4, .slice C5 d.kids.length d5], .bool false]) (by simp only [results, Tryz.results149]; go_simp) rfl (put_no HF.out (HO.out.carry (fun b hb => Aside.block (S := fun b => b = w.heap.size + 2) (w := wc) asd b hb.2 (by have q1 := hb.1; (try simp at q1); omega)) (fun b hb => by have q1 := hb.1; have q2 := hb.2; (try simp at q1); (try simp at q2); (try simp); omega)) (Bc.trans (Aside.below (S := fun b => b = w.heap.size + 2) asd Bc.size (fun i hi => by omega))))
theorem PutR.keysRow {n B nk nv b4 b5 c4 c5 e4 e5 : Nat} {A4 A5 E4 E5 B4 B5 : Option Addr} {d kid : TreeD} {w wr : World} {K : List ByteArray} {V : List TreeD} {ess : List (List Value)} {F : Nat -> Nat -> Prop} (h : PutR n d kid A4 c4 A5 c5 E4 e4 E5 e5 B w wr K V nk nv B4 b4 B5 b5 ess F) : wr.ownsRow (B + 1) 9 1 (.slice B4 nk b4) nk (K.map Value.string) := by
 have := h.map.keys
 rw [h.hk] at this
 exact this
theorem PutR.kidsRow {n B nk nv b4 b5 c4 c5 e4 e5 : Nat} {A4 A5 E4 E5 B4 B5 : Option Addr} {d kid : TreeD} {w wr : World} {K : List ByteArray} {V : List TreeD} {ess : List (List Value)} {F : Nat -> Nat -> Prop} (h : PutR n d kid A4 c4 A5 c5 E4 e4 E5 e5 B w wr K V nk nv B4 b4 B5 b5 ess F) : wr.ownsRow (B + 1) 34 6 (.slice B5 nv b5) nv ess.flatten := by
 have := h.map.kids
 rw [h.hv] at this
 exact this
theorem keep_of {W wx w2 : World} {o : Obj} {r : Option Nat} (hg : W.grownBy w2 r) (he : W.heap = (wx.alloc o).heap) : (∀ b, b < wx.heap.size -> r ≠ some b -> w2.heap[b]? = wx.heap[b]?) /\ wx.heap.size + 1 <= w2.heap.size := by
 have hz : W.heap.size = wx.heap.size + 1 := by rw [he]; simp
 refine ⟨fun b hb hn => ?_, by have := hg.size; omega⟩
 rw [hg.block b (by omega) (fun e => hn e.symm), he]
 exact Below.heap_alloc _ _ _ hb
theorem putOne_eq {key k : ByteArray} {kid v : TreeD} {l l' : Bool} {K K' : List ByteArray} {V V' : List TreeD} (h : (if !l && !lessS k key then (⟨true, K ++ [key], V ++ [kid]⟩ : PutSt) else ⟨l, K, V⟩) = ⟨l', K', V'⟩) : putOne key kid ⟨l, K, V⟩ k v = if k = key then ⟨l', K', V'⟩ else ⟨l', K' ++ [k], V' ++ [v]⟩ := by
 unfold putOne
 simp only
 split at h
 ·rename_i c
  rw [if_pos c]
  cases h
  rfl
 ·rename_i c
  rw [if_neg c]
  cases h
  rfl
theorem putS_mem (key : ByteArray) (kid : TreeD) (ks : List ByteArray) (vs : List TreeD) : ∀ i, ∀ x ∈ (putS key kid ks vs i).vs, x = kid ∨ x ∈ vs
 | 0, x, hx => by cases hx
 | i + 1, x, hx => by
  have ih := putS_mem key kid ks vs i
  rw [putS] at hx
  split at hx
  ·rename_i k v hk hv
   have hvm := List.mem_of_getElem? hv
   unfold putOne at hx
   generalize putS key kid ks vs i = st at *
   obtain ⟨l, K, V⟩ := st
   simp only at *
   repeat' split at hx
   all_goals (simp at hx)
   ·rcases hx with hx | hx
    ·exact ih x hx
    ·exact .inl hx
   ·rcases hx with hx | hx | hx
    ·exact ih x hx
    ·exact .inl hx
    ·subst hx; exact .inr hvm
   ·exact ih x hx
   ·rcases hx with hx | hx
    ·exact ih x hx
    ·subst hx; exact .inr hvm
  ·exact ih x hx
theorem put_size {n : Nat} {d kid : TreeD} (key : ByteArray) (hz : sizeT (n + 1) d <= 300) (hkz : sizeT n kid <= 1048576) (hl : d.keys.length = d.kids.length) : sizeT (n + 1) (putD d key kid) <= 1073741824 := by
 have hs := szL_leB (f := sizeT n) (B := 1048576) (l := (putE key kid (putS key kid d.keys d.kids d.keys.length)).vs) (fun x hx => by
  have h2 : x = kid ∨ x ∈ d.kids := by
   unfold putE at hx
   split at hx
   ·exact putS_mem key kid d.keys d.kids _ x hx
   ·simp at hx
    rcases hx with hx | hx
    ·exact putS_mem key kid d.keys d.kids _ x hx
    ·exact .inl hx
  rcases h2 with rfl | h2
  ·exact hkz
  ·obtain ⟨i, hi⟩ := List.getElem?_of_mem h2
   have := size_kid (n := n) hi
   omega)
 have h3 : d.kids.length <= 300 ∨ n = 0 := by
  cases n with
  | zero => exact .inr rfl
  | succ n =>
   left
   have h4 : ∀ l : List TreeD, l.length <= szL (sizeT (n + 1)) l := by
    intro l
    induction l with
    | nil => exact Nat.le_refl _
    | cons t l ih => simp only [szL, List.length_cons]; rw [sizeT_succ]; omega
   have := h4 d.kids
   rw [sizeT_succ] at hz
   omega
 have h5 := putS_len key kid d.keys d.kids d.keys.length
 rw [sizeT_succ]
 show 1 + szL (sizeT n) (putE key kid (putS key kid d.keys d.kids d.keys.length)).vs <= _
 rcases h3 with h3 | h3
 ·have h6 : (putE key kid (putS key kid d.keys d.kids d.keys.length)).vs.length <= 302 := by
   unfold putE
   split
   ·omega
   ·simp; omega
  have h7 := Nat.mul_le_mul_right 1048576 h6
  omega
 ·subst h3
  have h8 : ∀ l : List TreeD, szL (sizeT 0) l = 0 := by
   intro l
   induction l with
   | nil => rfl
   | cons t l ih => simp only [szL]; rw [ih]; rfl
  rw [h8]
  omega
theorem put_yes {n : Nat} {d kid : TreeD} {key : ByteArray} {w wF : World} {C4 C5 : Option Addr} {n4 d4 n5 d5 : Nat} (h : putB (n + 1) d key kid = true) (hO : OwnT (n + 1) (fun q => w.heap.size <= q /\ q < wF.heap.size) wF (putD d key kid) [.int .i64 6, .bool false, .int .i64 0, .string ⟨#[]⟩, .slice C4 n4 d4, .slice C5 n5 d5]) (hb : Below w.heap.size w wF) :
  PutP n d key kid w (.returned (.tuple #[.agg #[.int .i64 6, .bool false, .int .i64 0, .string ⟨#[]⟩, .slice C4 n4 d4, .slice C5 n5 d5], .bool true])) wF := by
 refine ⟨_, by rw [h], ?_, hb⟩
 unfold putT
 rw [if_pos h]
 exact hO
theorem c_put_main (n : Nat) (d kid : TreeD) (cs es : List Value) (key : ByteArray) (w : World) (lo : Nat) (h : C_Tree (n + 1) lo w.heap.size w d cs) (hkd : C_Tree n lo w.heap.size w kid es) (hkey : key.size <= 9223372036854775807) (hz : sizeT (n + 1) d <= 1073741824) (hkz : sizeT n kid <= 1048576) (hn : nTree (n + 1) d <= 1048576) (hkn : nTree n kid <= 1048576) (hd : d.kind = 6) (ho : okT (n + 1) d = true) : Calls Tryz.prog 149 #[.agg cs.toArray, .string key, .agg es.toArray] w (PutP n d key kid w) := by
 obtain ⟨i0, hi, hz0, hz1, hz2⟩ := info_parts (show (Tryz.prog.info? 34).map (fun i => (i.zero, i.size, i.bytes)) = some (some (.agg #[.int .i64 0, .bool false, .int .i64 0, .string ⟨#[]⟩, .slice none 0 0, .slice none 0 0]), 6, 88) from by kernel_rfl)
 obtain ⟨j0, gi, gz0, gz1, gz2⟩ := info_parts (show (Tryz.prog.info? 9).map (fun i => (i.zero, i.size, i.bytes)) = some (some (.string ⟨#[]⟩), 1, 16) from by kernel_rfl)
 have hx : (d.kind != 6) = false := by simp [hd]
 have hok : sizeT (n + 1) d <= 300 /\ d.keys.length = d.kids.length := by
  rw [okT_def] at ho
  simp only [Bool.and_eq_true, decide_eq_true_eq] at ho
  refine ⟨ho.1.2, ?_⟩
  have := (shape_parts ho.2).2.2.1
  unfold lensOk at this
  simp [hd] at this
  exact this
 have Hz3 := hid (put_size key hok.1 hkz hok.2)
 have Hks := hid (fun k f (hf : d.kids[k]? = some f) => (size_kid (n := n) hf))
 have Hln := hid hok.2
 have Hbf := hid (show putB (n + 1) d key kid = okT (n + 1) (putD d key kid) by unfold putB; rw [hd, ho]; rfl)
 obtain ⟨v4, v5, rfl, a0, a2, a3, a4, a5⟩ := h.out
 obtain ⟨A4, c4, rfl, hlc4, hcc4, hA4⟩ := a4
 obtain ⟨A5, c5, rfl, hlc5, hcc5, hA5⟩ := a5
 obtain ⟨E4, e4, E5, e5, rfl⟩ := C_Tree.open hkd
 have m4 : d.keys.length <= 1048576 := by rw [nTree_succ] at hn; have := nL_def ByteArray.size d.keys; omega
 have HC := hid h
 have HKd := hid hkd
 have Ho := hid ho
 have HA4 := hid hA4
 have HA5 := hid hA5
 clear h hd ho hok hkd hA4 hA5
 go_enter Tryz.func149, Tryz.ntmps149
 go_wp2_with fail
 refine (c_spec_TreeOk (n + 1) d _ _ lo (HC.out.now bel) hz).mono ?_
 rintro e w1 ⟨rfl, hb1⟩
 rw [Ho.out]
 have HB1 := hid (Below.trans bel (hb1.mono (by simp; try omega)) : Below w.heap.size w w1)
 have hA := hid ((hb1.block w.heap.size (by simp; try omega)).trans ((Below.heap_alloc _ _ _ (by simp; try omega)).trans ((Below.heap_alloc _ _ _ (by simp; try omega)).trans (heap_at rfl))))
 have hK := hid ((hb1.block (w.heap.size + 1) (by simp; try omega)).trans ((Below.heap_alloc _ _ _ (by simp; try omega)).trans (heap_at (by simp))))
 have hZ := hid ((hb1.block (w.heap.size + 2) (by simp; try omega)).trans (heap_at (by simp)))
 have al := row_lt hA.out
 have kl := row_lt hK.out
 have zl := row_lt hZ.out
 have hsz1 := hb1.size
 simp at hsz1
 obtain ⟨a0, a1, a2, a3, a4, a5, af⟩ := row6 hA.out
 clear hb1
 go_wp2_with fail
 go_loopw [9, 10] (fun s9 s10 wr => ∃ (i : Nat) (l : Bool) (K : List ByteArray) (V : List TreeD), i <= d.keys.length /\ s10 = .int .i64 i /\ s9 = .bool l /\ putS key kid d.keys d.kids i = ⟨l, K, V⟩ /\ ∃ (nk nv : Nat) (B4 : Option Addr) (b4 : Nat) (B5 : Option Addr) (b5 : Nat) (ess : List (List Value)) (F : Nat -> Nat -> Prop), PutR n d kid A4 c4 A5 c5 E4 e4 E5 e5 w1.heap.size w wr K V nk nv B4 b4 B5 b5 ess F) (fun _ s10 _ => d.keys.length - (intOf s10).toNat)
 case atStart =>
  exact ⟨0, false, [], [], Nat.zero_le _, rfl, rfl, rfl, 0, 0, none, 0, none, 0, [], (fun _ _ => False), ⟨(Below.heap_alloc _ _ _ al).trans hA.out, (Below.heap_alloc _ _ _ kl).trans hK.out, (Below.heap_alloc _ _ _ zl).trans hZ.out, heap_at rfl, rfl, rfl, MapG.nil _ _ _ _, HB1.out.alloc HB1.out.size _, by omega⟩⟩
 case round =>
  clear a0 a1 a2 a3 a4 a5 af
  obtain ⟨i, l, K, V, hile, rfl, rfl, hst, nk, nv, B4, b4, B5, b5, ess, F, hP⟩ := hrel
  have hsl := putS_len key kid d.keys d.kids i
  rw [hst] at hsl
  have hnk : nk <= 1048577 := by have := hP.hk; have := hsl.2.1; simp only at this; omega
  have hnv : nv <= 1048577 := by have := hP.hv; have := hP.hk; have := hsl.1; simp only at this; omega
  have HS := hid hst
  have HP := hid hP
  clear hst hP hsl
  obtain ⟨a0, a1, a2, a3, a4, a5, af⟩ := row6 HP.out.ra
  have wal := row_lt HP.out.ra
  by_cases hlt : i < d.keys.length
  ·obtain ⟨b, o, rfl, -, hb2, hcell⟩ := HA4.out (by omega)
   obtain ⟨k, hk⟩ := exists_at hlt
   obtain ⟨es', -, hcs, rfl, hks⟩ := hcell i k hk
   have hc := (HP.out.below.cell (p := ⟨b, o + i * 1 + 0, none⟩) (by simp; omega)).trans (hcs 0 (by omega))
   simp at hc
   have Hcs := hid hcs
   have hlt5 : i < d.kids.length := by have := Hln.out; omega
   obtain ⟨fb, fo, rfl, -, hfb2, hfcell⟩ := HA5.out (by omega)
   obtain ⟨v, hv⟩ := exists_at hlt5
   obtain ⟨fs, -, hfc, hCf⟩ := hfcell i v hv
   obtain ⟨gA4, gc4, gA5, gc5, rfl, ga0, ga2, ga3⟩ := hCf.flat
   have hnf : nTree n v <= 1048576 := by rw [nTree_succ] at hn; have := nL_def (nTree n) d.kids; have := szL_take_succ (nTree n) d.kids i v hv; have := szL_take_le (nTree n) d.kids (i+1); omega
   have Hnx := hid (putS_next (key := key) (kid := kid) hk hv)
   have HCf := hid hCf
   have Hfc := hid hfc
   have hi0 : (0 : Int) <= i := by omega
   have hi1 : (i : Int) < d.keys.length := by omega
   have hi2 : (i : Int) < d.kids.length := by omega
   have hbl : b < wr.heap.size := Nat.lt_of_lt_of_le hb2 HP.out.below.size
   clear hcs hcell hfcell hfc hCf hk hv
   obtain ⟨q, hq⟩ : ∃ q, q = (!l && !lessS k key) := ⟨_, rfl⟩
   go_upto_region 8 with fail
   go_cut [39] from 29 to 39 (fun s39 wx => s39 = .bool q /\ wr = wx)
   case first =>
    cases l with
    | true =>
     go_wp2_with fail
     go_meet
     exact ⟨by rw [hq]; rfl, rfl⟩
    | false =>
     by_cases hq1 : lessS k key = true
     ·have hql : Op.bytesLess k.toList key.toList = true := hq1
      rw [hq1] at hq
      go_wp2_with fail
      go_meet
      exact ⟨by rw [hq]; rfl, rfl⟩
     ·have hq0 : lessS k key = false := by simpa using hq1
      have hql : Op.bytesLess k.toList key.toList = false := hq0
      rw [hq0] at hq
      clear hq1
      go_wp2_with fail
      go_meet
      exact ⟨by rw [hq]; rfl, rfl⟩
   case rest =>
   obtain ⟨rfl, rfl⟩ := hcut
   have Hq := hid hq
   clear hq
   go_upto_if 39 with fail
   go_cut [9] from 40 to 52 (fun s9 wx => ∃ (l' : Bool) (K' : List ByteArray) (V' : List TreeD), s9 = .bool l' /\ (if !l && !lessS k key then (⟨true, K ++ [key], V ++ [kid]⟩ : PutSt) else ⟨l, K, V⟩) = ⟨l', K', V'⟩ /\ K'.length <= 1048577 /\ V'.length <= 1048577 /\ ∃ (nk nv : Nat) (B4 : Option Addr) (b4 : Nat) (B5 : Option Addr) (b5 : Nat) (ess : List (List Value)) (F : Nat -> Nat -> Prop), PutR n d kid (some ⟨b, o, none⟩) c4 (some ⟨fb, fo, none⟩) c5 E4 e4 E5 e5 w1.heap.size w wx K' V' nk nv B4 b4 B5 b5 ess F)
   case first =>
    have hKl : K.length <= 1048576 + 1 := by have := HP.out.hk; omega
    have hVl : V.length <= 1048576 + 1 := by have := HP.out.hv; omega
    cases q with
    | false =>
     go_wp2_with fail
     go_meet
     exact ⟨l, K, V, rfl, by rw [<- Hq.out]; rfl, hKl, hVl, _, _, _, _, _, _, _, _, HP.out⟩
    | true =>
     have hsl := putS_len key kid d.keys d.kids i
     rw [HS.out] at hsl
     have hl0 : l = false := by
      have := Hq.out
      cases l
      ·rfl
      ·cases this
     have hk2 : K.length <= 1048576 := by have := hsl.2.2 hl0; simp only at this; omega
     have hv2 : V.length <= 1048576 := by have := hsl.1; simp only at this; omega
     clear hsl hKl hVl hl0
     obtain ⟨x0, x1, x2, x3, x4, x5, xf⟩ := row6 HP.out.ro
     have xl := row_lt HP.out.ro
     have HKr := hid HP.out.keysRow
     have hbrx : Below w.heap.size w wr := HP.out.below
     obtain ⟨r, hr⟩ : ∃ r, r = (Value.slice B4 nk b4).ownBlock := ⟨_, rfl⟩
     have hrl : ∀ q, r = some q -> w1.heap.size + 1 <= q := fun q hq => (HKr.out.lt q (by rw [<- hr]; exact hq)).1
     have hnB : r ≠ some w1.heap.size := fun h => by have := hrl _ h; omega
     have HnB := hid hnB
     have Hrl := hid hrl
     have Hr := hid hr
     clear hrl hr hnB
     go_wp2_with (at_builtin; refine wpList_append_lies _ rfl (.tmp 41) (.tmp 43) 31 rfl (w1.heap.size + 1) 9 j0 (.string ⟨#[]⟩) 1 16 Tryz.underlying31 gi gz0 gz1 gz2 rfl (by decide) _ nk (K.map Value.string) rfl ((own_heap HKr.out rfl).alloc _) _ 1 1 [.string key] rfl rfl (World.news_of_block (heap_at (by simp))) (by intro u hu; simp at hu; subst hu; rfl) (by decide) (by unfold maxLen; omega) (by omega) (by simp; omega) _ rfl ?_)
     intro g cap w2 hown hgrow hat hlt2
     have hgrow4 := grown_at Hr.out hgrow
     obtain ⟨hkp, hs2⟩ := keep_of (wx := wr) hgrow4 rfl
     have hbW : Below w.heap.size w w2 := Below.grown (B := w.heap.size) bel hgrow4 (by have := HP.out.below.size; simp; omega) (fun q hq => by have := Hrl.out q hq; omega)
     obtain ⟨hbx, hP2⟩ := HP.out.key hkey hown (fun b hb hne => hkp b hb (fun e => hne (by rw [<- Hr.out]; exact e))) (by omega) hbW (hat.imp id (fun h => by (try simp at h); omega))
     have HP2 := hid hP2
     clear hgrow hgrow4 hkp hbW hown hat hP2 x0 x1 x2 x3 x4 x5 xf hs2 hbrx
     obtain ⟨x0, x1, x2, x3, x4, x5, xf⟩ := row6 hbx
     have xl2 := row_lt hbx
     clear hbx
     go_wp2_with fail
     obtain ⟨w3, hw3⟩ : ∃ W, W = w2.setCell ⟨w1.heap.size, 4, none⟩ (.slice (some ⟨g, 0, none⟩) (nk + 1) cap) := ⟨_, rfl⟩
     rw [<- hw3]
     have hP3 := HP2.out
     rw [<- hw3] at hP3
     have HP3 := hid hP3
     have hbr3 : Below w.heap.size w w3 := hP3.below
     clear hw3 hP3 HP2 x0 x1 x2 x3 x4 x5 xf xl xl2 HKr Hr Hrl HnB r
     obtain ⟨x0, x1, x2, x3, x4, x5, xf⟩ := row6 HP3.out.ro
     have xl := row_lt HP3.out.ro
     obtain ⟨y0, y1, y2, y3, y4, y5, yf⟩ := row6 HP3.out.rk
     have yl := row_lt HP3.out.rk
     have HLr := hid HP3.out.kidsRow
     obtain ⟨r, hr⟩ : ∃ r, r = (Value.slice B5 nv b5).ownBlock := ⟨_, rfl⟩
     have hrl : ∀ q, r = some q -> w1.heap.size + 1 <= q := fun q hq => (HLr.out.lt q (by rw [<- hr]; exact hq)).1
     have hnB : r ≠ some w1.heap.size := fun h => by have := hrl _ h; omega
     have HnB := hid hnB
     have Hrl := hid hrl
     have Hr := hid hr
     clear hrl hr hnB
     go_region_law (first | (go_simp; go_at_call 69; refine (all_l08 n kid _ _ lo (HKd.out.now bel) hkn).mono ?_; rintro e w9 ⟨cs9, rfl, ho9, hb9⟩; obtain ⟨fA4, fc4, fA5, fc5, rfl, fa0, fa2, fa3⟩ := ho9.flat; obtain ⟨-, -, -, -, -, p5, -⟩ := row6 ((hb9.block w1.heap.size xl).trans HP3.out.ro); have p9 : w1.heap.size < w9.heap.size := Nat.lt_of_lt_of_le xl hb9.size) | (refine step_append_lies _ rfl (.tmp 47) (.tmp 50) 32 rfl (w1.heap.size + 1) 34 i0 (.agg #[.int .i64 0, .bool false, .int .i64 0, .string ⟨#[]⟩, .slice none 0 0, .slice none 0 0]) 6 88 Tryz.underlying32 hi hz0 hz1 hz2 rfl (by decide) _ nv ess.flatten rfl (own9 HLr.out hb9 rfl rfl) ⟨w9.heap.size, 0, none⟩ 1 1 [.int .i64 kid.kind, .bool kid.flag, .int .i64 kid.num, .string kid.text, .slice fA4 kid.keys.length fc4, .slice fA5 kid.kids.length fc5] rfl rfl (World.news_of_block (heap_alloc_new w9 _)) ho9.one (by decide) (by unfold maxLen; omega) (by omega) (by have := hb9.size; simp at this ⊢; omega) _ rfl ?_; intro g2 cap2 w4 hown2 hgrow2 hat2 hlt4; have hgrow3 := grown_at Hr.out hgrow2; obtain ⟨-, -, -, -, -, q5, qf⟩ := row6 (row9 HP3.out.ro hb9 rfl hgrow2 Hr.out HnB.out)))
     all_goals
      have hs9 : w3.heap.size <= w9.heap.size := hb9.size
      have hB9 : Below w.heap.size w w9 := bel
      have hs4 := hgrow3.size
      simp at hs4
      have hk9 : ∀ b, b < w3.heap.size -> w9.heap[b]? = w3.heap[b]? := fun b hb => hb9.block b hb
      obtain ⟨-, F2, hP4⟩ := HP3.out.kid hk9 hs9 ho9 hown2 (fun b hb hne => (hgrow3.block b (by simp; omega) (fun e => hne (by rw [<- Hr.out]; exact e.symm))).trans (Below.heap_alloc _ _ _ hb)) (by omega) (Below.grown (hB9.alloc hB9.size _) hgrow3 (by have := hB9.size; simp; omega) (fun q hq => by have := Hrl.out q hq; omega)) (hat2.imp id (fun h => by (try simp at h); omega))
      have HP4 := hid hP4
      clear hgrow2 hgrow3 hown2 hat2 hP4 hk9 ho9 hb9
      go_wp2_with fail
      go_meet
      exact ⟨true, _, _, rfl, by rw [<- Hq.out]; rfl, by simp; omega, by simp; omega, _, _, _, _, _, _, _, _, HP4.out⟩
   case rest =>
    obtain ⟨l', K, V, rfl, hif, hK2, hV2, nk, nv, B4, b4, B5, b5, ess, F, hP⟩ := hcut
    have Hif := hid (putOne_eq (v := v) hif)
    clear hif HP a0 a1 a2 a3 a4 a5 af hc
    obtain ⟨wx, hwx⟩ : ∃ x, x = wc := ⟨_, rfl⟩
    rw [<- hwx] at hP ⊢
    clear hwx
    have HP := hid hP
    have hbrx : Below w.heap.size w wx := hP.below
    have hnk : nk <= 1048577 := by have := hP.hk; omega
    have hnv : nv <= 1048577 := by have := hP.hv; omega
    clear hP
    rw [HS.out] at Hnx
    obtain ⟨a0, a1, a2, a3, a4, a5, af⟩ := row6 HP.out.ra
    have wal := row_lt HP.out.ra
    have hc := (HP.out.below.cell (p := ⟨b, o + i * 1 + 0, none⟩) (by simp; omega)).trans (Hcs.out 0 (by omega))
    simp at hc
    have hblx : b < wx.heap.size := Nat.lt_of_lt_of_le hb2 HP.out.below.size
    by_cases hke : k = key
    ·have HR := hid (show putS key kid d.keys d.kids (i + 1) = ⟨l', K, V⟩ by rw [Hnx.out, Hif.out, if_pos hke])
     have e1 : (k.toList == key.toList) = true := by rw [hke]; simp
     have e2 : (k.toList != key.toList) = false := by rw [hke]; simp
     clear hke
     go_wp2_with fail
     go_roundw
     case rel => exact ⟨i + 1, l', K, V, by omega, by go_num, rfl, HR.out, _, _, _, _, _, _, _, _, HP.out⟩
     case measure => simp [intOf]; omega
    ·have HR := hid (show putS key kid d.keys d.kids (i + 1) = ⟨l', K ++ [k], V ++ [v]⟩ by rw [Hnx.out, Hif.out, if_neg hke])
     have e0 : ¬ k.toList = key.toList := fun e => hke (toList_inj e)
     have e1 : (k.toList == key.toList) = false := beq_eq_false_iff_ne.2 e0
     have e2 : (k.toList != key.toList) = true := bne_iff_ne.2 e0
     clear hke
     go_upto_region 13 with fail
     go_cut [] from 60 to 69 (fun wy => ∃ (B4' : Option Addr) (b4' : Nat), PutR n d kid (some ⟨b, o, none⟩) c4 (some ⟨fb, fo, none⟩) c5 E4 e4 E5 e5 w1.heap.size w wy (K ++ [k]) V (nk + 1) nv B4' b4' B5 b5 ess F)
     case first =>
      obtain ⟨x0, x1, x2, x3, x4, x5, xf⟩ := row6 HP.out.ro
      have xl := row_lt HP.out.ro
      have HKr := hid HP.out.keysRow
      have hbrx : Below w.heap.size w wx := HP.out.below
      obtain ⟨r, hr⟩ : ∃ r, r = (Value.slice B4 nk b4).ownBlock := ⟨_, rfl⟩
      have hrl : ∀ q, r = some q -> w1.heap.size + 1 <= q := fun q hq => (HKr.out.lt q (by rw [<- hr]; exact hq)).1
      have hnB : r ≠ some w1.heap.size := fun h => by have := hrl _ h; omega
      have HnB := hid hnB
      have Hrl := hid hrl
      have Hr := hid hr
      clear hrl hr hnB
      go_wp2_with fail
      go_region_law (refine step_append_lies _ rfl (.tmp 61) (.tmp 67) 31 rfl (w1.heap.size + 1) 9 j0 (.string ⟨#[]⟩) 1 16 Tryz.underlying31 gi gz0 gz1 gz2 rfl (by decide) _ nk (K.map Value.string) rfl ((own_heap HKr.out rfl).alloc _) _ 1 1 [.string k] rfl rfl (World.news_of_block (heap_at (by simp))) (by intro u hu; simp at hu; subst hu; rfl) (by decide) (by unfold maxLen; omega) (by omega) (by simp; omega) _ rfl ?_; intro g cap w2 hown hgrow hat hlt2; have hgrow3 := grown_at Hr.out hgrow; obtain ⟨-, -, -, -, q4, -, qf⟩ := row6 (((keep_of (wx := wx) hgrow3 rfl).1 _ xl HnB.out).trans HP.out.ro))
      all_goals
       have hgrow4 := grown_at Hr.out hgrow
       obtain ⟨hkp, hs2⟩ := keep_of (wx := wx) hgrow4 rfl
       have hbW : Below w.heap.size w w2 := Below.grown (B := w.heap.size) bel hgrow4 (by have := HP.out.below.size; simp; omega) (fun q hq => by have := Hrl.out q hq; omega)
       obtain ⟨hbx, hP2⟩ := HP.out.key hks hown (fun b hb hne => hkp b hb (fun e => hne (by rw [<- Hr.out]; exact e))) (by omega) hbW (hat.imp id (fun h => by (try simp at h); omega))
       have HP2 := hid hP2
       clear hgrow hgrow4 hkp hbW hown hat hP2 q4 qf hgrow3 a0 a1 a2 a3 a4 a5 af hc x0 x1 x2 x3 x4 x5 xf hs2 hbrx
       obtain ⟨x0, x1, x2, x3, x4, x5, xf⟩ := row6 hbx
       have xl2 := row_lt hbx
       clear hbx
       go_wp2_with fail
       go_meet
       exact ⟨_, _, HP2.out⟩
     case rest =>
      obtain ⟨B4', b4', hP3⟩ := hcut
      obtain ⟨w3, hw3⟩ : ∃ x, x = wc := ⟨_, rfl⟩
      rw [<- hw3] at hP3 ⊢
      clear hw3 HP hbrx a0 a1 a2 a3 a4 a5 af hc
      have HP3 := hid hP3
      have hbr3 : Below w.heap.size w w3 := hP3.below
      clear hP3
      go_wp2_with fail
      obtain ⟨x0, x1, x2, x3, x4, x5, xf⟩ := row6 HP3.out.ro
      have xl := row_lt HP3.out.ro
      have hc0 := (hbr3.cell (p := ⟨fb, fo + i * 6 + 0, none⟩) (by simp; omega)).trans (Hfc.out 0 (by omega))
      have hc1 := (hbr3.cell (p := ⟨fb, fo + i * 6 + 1, none⟩) (by simp; omega)).trans (Hfc.out 1 (by omega))
      have hc2 := (hbr3.cell (p := ⟨fb, fo + i * 6 + 2, none⟩) (by simp; omega)).trans (Hfc.out 2 (by omega))
      have hc3 := (hbr3.cell (p := ⟨fb, fo + i * 6 + 3, none⟩) (by simp; omega)).trans (Hfc.out 3 (by omega))
      have hc4 := (hbr3.cell (p := ⟨fb, fo + i * 6 + 4, none⟩) (by simp; omega)).trans (Hfc.out 4 (by omega))
      have hc5 := (hbr3.cell (p := ⟨fb, fo + i * 6 + 5, none⟩) (by simp; omega)).trans (Hfc.out 5 (by omega))
      simp at hc0 hc1 hc2 hc3 hc4 hc5
      have fbl : fb < w3.heap.size := Nat.lt_of_lt_of_le hfb2 hbr3.size
      obtain ⟨y0, y1, y2, y3, y4, y5, yf⟩ := row6 HP3.out.ra
      have yl := row_lt HP3.out.ra
      have HLr := hid HP3.out.kidsRow
      obtain ⟨r, hr⟩ : ∃ r, r = (Value.slice B5 nv b5).ownBlock := ⟨_, rfl⟩
      have hrl : ∀ q, r = some q -> w1.heap.size + 1 <= q := fun q hq => (HLr.out.lt q (by rw [<- hr]; exact hq)).1
      have hnB : r ≠ some w1.heap.size := fun h => by have := hrl _ h; omega
      have HnB := hid hnB
      have Hrl := hid hrl
      have Hr := hid hr
      clear hrl hr hnB
      go_region_law (first | (go_simp; go_at_call 69; refine (all_l08 n v _ _ lo (HCf.out.now bel) hnf).mono ?_; rintro e w9 ⟨cs9, rfl, ho9, hb9⟩; obtain ⟨fA4, fc4, fA5, fc5, rfl, fa0, fa2, fa3⟩ := ho9.flat; obtain ⟨-, -, -, -, -, p5, -⟩ := row6 ((hb9.block w1.heap.size xl).trans HP3.out.ro); have p9 : w1.heap.size < w9.heap.size := Nat.lt_of_lt_of_le xl hb9.size) | (refine step_append_lies _ rfl (.tmp 71) (.tmp 78) 32 rfl (w1.heap.size + 1) 34 i0 (.agg #[.int .i64 0, .bool false, .int .i64 0, .string ⟨#[]⟩, .slice none 0 0, .slice none 0 0]) 6 88 Tryz.underlying32 hi hz0 hz1 hz2 rfl (by decide) _ nv ess.flatten rfl (own9 HLr.out hb9 rfl rfl) ⟨w9.heap.size, 0, none⟩ 1 1 [.int .i64 v.kind, .bool v.flag, .int .i64 v.num, .string v.text, .slice fA4 v.keys.length fc4, .slice fA5 v.kids.length fc5] rfl rfl (World.news_of_block (heap_alloc_new w9 _)) ho9.one (by decide) (by unfold maxLen; omega) (by omega) (by have := hb9.size; simp at this ⊢; omega) _ rfl ?_; intro g2 cap2 w4 hown2 hgrow2 hat2 hlt4; have hgrow3 := grown_at Hr.out hgrow2; obtain ⟨-, -, -, -, -, q5, qf⟩ := row6 (row9 HP3.out.ro hb9 rfl hgrow2 Hr.out HnB.out)))
      all_goals
       have hs9 : w3.heap.size <= w9.heap.size := hb9.size
       have hB9 : Below w.heap.size w w9 := bel
       have hs4 := hgrow3.size
       simp at hs4
       have hk9 : ∀ b, b < w3.heap.size -> w9.heap[b]? = w3.heap[b]? := fun b hb => hb9.block b hb
       obtain ⟨-, F2, hP4⟩ := HP3.out.kid hk9 hs9 ho9 hown2 (fun b hb hne => (hgrow3.block b (by simp; omega) (fun e => hne (by rw [<- Hr.out]; exact e.symm))).trans (Below.heap_alloc _ _ _ hb)) (by omega) (Below.grown (hB9.alloc hB9.size _) hgrow3 (by have := hB9.size; simp; omega) (fun q hq => by have := Hrl.out q hq; omega)) (hat2.imp id (fun h => by (try simp at h); omega))
       have HP4 := hid hP4
       clear hgrow2 hgrow3 hown2 hat2 hP4 hk9 ho9 hb9
       go_wp2_with fail
       go_roundw
       case rel => exact ⟨i + 1, l', _, _, by omega, by go_num, rfl, HR.out, _, _, _, _, _, _, _, _, HP4.out⟩
       case measure => simp [intOf]; omega
  ·obtain rfl : i = d.keys.length := by omega
   have hsl := putS_len key kid d.keys d.kids d.keys.length
   rw [HS.out] at hsl
   have hk2 : K.length <= 1048577 := by have := hsl.2.1; simp only at this; omega
   have hv2 : V.length <= 1048577 := by have := hsl.1; simp only at this; omega
   clear hsl
   go_upto_if 82 with fail
   go_cut [] from 83 to 95 (fun wx => ∃ (K' : List ByteArray) (V' : List TreeD), putE key kid ⟨l, K, V⟩ = ⟨true, K', V'⟩ /\ ∃ (nk nv : Nat) (B4 : Option Addr) (b4 : Nat) (B5 : Option Addr) (b5 : Nat) (ess : List (List Value)) (F : Nat -> Nat -> Prop), PutR n d kid A4 c4 A5 c5 E4 e4 E5 e5 w1.heap.size w wx K' V' nk nv B4 b4 B5 b5 ess F)
   case first =>
    cases l with
    | true =>
     go_wp2_with fail
     go_meet
     exact ⟨K, V, rfl, _, _, _, _, _, _, _, _, HP.out⟩
    | false =>
     clear a0 a1 a2 a3 a4 a5 af wal
     obtain ⟨x0, x1, x2, x3, x4, x5, xf⟩ := row6 HP.out.ro
     have xl := row_lt HP.out.ro
     have HKr := hid HP.out.keysRow
     have hbrx : Below w.heap.size w wr := HP.out.below
     obtain ⟨r, hr⟩ : ∃ r, r = (Value.slice B4 nk b4).ownBlock := ⟨_, rfl⟩
     have hrl : ∀ q, r = some q -> w1.heap.size + 1 <= q := fun q hq => (HKr.out.lt q (by rw [<- hr]; exact hq)).1
     have hnB : r ≠ some w1.heap.size := fun h => by have := hrl _ h; omega
     have HnB := hid hnB
     have Hrl := hid hrl
     have Hr := hid hr
     clear hrl hr hnB
     go_wp2_with (at_builtin; refine wpList_append_lies _ rfl (.tmp 84) (.tmp 86) 31 rfl (w1.heap.size + 1) 9 j0 (.string ⟨#[]⟩) 1 16 Tryz.underlying31 gi gz0 gz1 gz2 rfl (by decide) _ nk (K.map Value.string) rfl ((own_heap HKr.out rfl).alloc _) _ 1 1 [.string key] rfl rfl (World.news_of_block (heap_at (by simp))) (by intro u hu; simp at hu; subst hu; rfl) (by decide) (by unfold maxLen; omega) (by omega) (by simp; omega) _ rfl ?_)
     intro g cap w2 hown hgrow hat hlt2
     have hgrow4 := grown_at Hr.out hgrow
     obtain ⟨hkp, hs2⟩ := keep_of (wx := wr) hgrow4 rfl
     have hbW : Below w.heap.size w w2 := Below.grown (B := w.heap.size) bel hgrow4 (by have := HP.out.below.size; simp; omega) (fun q hq => by have := Hrl.out q hq; omega)
     obtain ⟨hbx, hP2⟩ := HP.out.key hkey hown (fun b hb hne => hkp b hb (fun e => hne (by rw [<- Hr.out]; exact e))) (by omega) hbW (hat.imp id (fun h => by (try simp at h); omega))
     have HP2 := hid hP2
     clear hgrow hgrow4 hkp hbW hown hat hP2 x0 x1 x2 x3 x4 x5 xf hs2 hbrx
     obtain ⟨x0, x1, x2, x3, x4, x5, xf⟩ := row6 hbx
     have xl2 := row_lt hbx
     clear hbx
     go_wp2_with fail
     obtain ⟨w3, hw3⟩ : ∃ W, W = w2.setCell ⟨w1.heap.size, 4, none⟩ (.slice (some ⟨g, 0, none⟩) (nk + 1) cap) := ⟨_, rfl⟩
     rw [<- hw3]
     have hP3 := HP2.out
     rw [<- hw3] at hP3
     have HP3 := hid hP3
     have hbr3 : Below w.heap.size w w3 := hP3.below
     clear hw3 hP3 HP2 x0 x1 x2 x3 x4 x5 xf xl xl2 HKr Hr Hrl HnB r
     obtain ⟨x0, x1, x2, x3, x4, x5, xf⟩ := row6 HP3.out.ro
     have xl := row_lt HP3.out.ro
     obtain ⟨y0, y1, y2, y3, y4, y5, yf⟩ := row6 HP3.out.rk
     have yl := row_lt HP3.out.rk
     have HLr := hid HP3.out.kidsRow
     obtain ⟨r, hr⟩ : ∃ r, r = (Value.slice B5 nv b5).ownBlock := ⟨_, rfl⟩
     have hrl : ∀ q, r = some q -> w1.heap.size + 1 <= q := fun q hq => (HLr.out.lt q (by rw [<- hr]; exact hq)).1
     have hnB : r ≠ some w1.heap.size := fun h => by have := hrl _ h; omega
     have HnB := hid hnB
     have Hrl := hid hrl
     have Hr := hid hr
     clear hrl hr hnB
     go_region_law (first | (go_simp; go_at_call 69; refine (all_l08 n kid _ _ lo (HKd.out.now bel) hkn).mono ?_; rintro e w9 ⟨cs9, rfl, ho9, hb9⟩; obtain ⟨fA4, fc4, fA5, fc5, rfl, fa0, fa2, fa3⟩ := ho9.flat; obtain ⟨-, -, -, -, -, p5, -⟩ := row6 ((hb9.block w1.heap.size xl).trans HP3.out.ro); have p9 : w1.heap.size < w9.heap.size := Nat.lt_of_lt_of_le xl hb9.size) | (refine step_append_lies _ rfl (.tmp 90) (.tmp 93) 32 rfl (w1.heap.size + 1) 34 i0 (.agg #[.int .i64 0, .bool false, .int .i64 0, .string ⟨#[]⟩, .slice none 0 0, .slice none 0 0]) 6 88 Tryz.underlying32 hi hz0 hz1 hz2 rfl (by decide) _ nv ess.flatten rfl (own9 HLr.out hb9 rfl rfl) ⟨w9.heap.size, 0, none⟩ 1 1 [.int .i64 kid.kind, .bool kid.flag, .int .i64 kid.num, .string kid.text, .slice fA4 kid.keys.length fc4, .slice fA5 kid.kids.length fc5] rfl rfl (World.news_of_block (heap_alloc_new w9 _)) ho9.one (by decide) (by unfold maxLen; omega) (by omega) (by have := hb9.size; simp at this ⊢; omega) _ rfl ?_; intro g2 cap2 w4 hown2 hgrow2 hat2 hlt4; have hgrow3 := grown_at Hr.out hgrow2; obtain ⟨-, -, -, -, -, q5, qf⟩ := row6 (row9 HP3.out.ro hb9 rfl hgrow2 Hr.out HnB.out)))
     all_goals
      have hs9 : w3.heap.size <= w9.heap.size := hb9.size
      have hB9 : Below w.heap.size w w9 := bel
      have hs4 := hgrow3.size
      simp at hs4
      have hk9 : ∀ b, b < w3.heap.size -> w9.heap[b]? = w3.heap[b]? := fun b hb => hb9.block b hb
      obtain ⟨-, F2, hP4⟩ := HP3.out.kid hk9 hs9 ho9 hown2 (fun b hb hne => (hgrow3.block b (by simp; omega) (fun e => hne (by rw [<- Hr.out]; exact e.symm))).trans (Below.heap_alloc _ _ _ hb)) (by omega) (Below.grown (hB9.alloc hB9.size _) hgrow3 (by have := hB9.size; simp; omega) (fun q hq => by have := Hrl.out q hq; omega)) (hat2.imp id (fun h => by (try simp at h); omega))
      have HP4 := hid hP4
      clear hgrow2 hgrow3 hown2 hat2 hP4 hk9 ho9 hb9
      go_wp2_with fail
      go_meet
      exact ⟨_, _, rfl, _, _, _, _, _, _, _, _, HP4.out⟩
   case rest =>
    obtain ⟨K, V, hE, nk, nv, B4, b4, B5, b5, ess, F, hP⟩ := hcut
    have HE := hid (show tMap K V = putD d key kid by unfold putD; rw [HS.out, hE])
    clear a0 a1 a2 a3 a4 a5 af wal HP hE hnk hnv hk2 hv2
    obtain ⟨wx, hwx⟩ : ∃ x, x = wc := ⟨_, rfl⟩
    rw [<- hwx] at hP ⊢
    clear hwx
    have HP := hid hP
    have hbrx : Below w.heap.size w wx := hP.below
    have hO := hP.map.tree (wF := wx) (S := fun q => w1.heap.size + 1 <= q /\ q < wx.heap.size) (fun _ _ _ => rfl) (fun b h1 h2 => ⟨h1, h2⟩)
    rw [HE.out] at hO
    have HO := hid hO
    clear hP hO
    obtain ⟨x0, x1, x2, x3, x4, x5, xf⟩ := row6 HP.out.ro
    have xl := row_lt HP.out.ro
    go_wp2_with fail
    refine (c_spec_TreeOk (n + 1) (putD d key kid) _ _ 0 ((HO.out.toC (lo := 0) (hi := wx.heap.size) (fun b hb => ⟨Nat.zero_le _, hb.2⟩)).now bel) Hz3.out).mono ?_
    rintro e w5 ⟨rfl, hb5⟩
    have HB5 := hid (hbrx.trans (hb5.mono hbrx.size))
    have hrA := hid ((hb5.block _ (row_lt HP.out.ra)).trans HP.out.ra)
    have hrZ := hid ((hb5.block _ (row_lt HP.out.rz)).trans HP.out.rz)
    have hrO := hid ((hb5.block _ xl).trans HP.out.ro)
    have H5 := hid hb5
    have hz5 := hb5.size
    clear x0 x1 x2 x3 x4 x5 xf hb5
    by_cases hB : okT (n + 1) (putD d key kid) = true
    ·have HF := hid (Hbf.out.trans hB)
     rw [hB]
     obtain ⟨x0, x1, x2, x3, x4, x5, xf⟩ := row6 hrO.out
     obtain ⟨z0, z1, z2, z3, z4, z5, zf⟩ := row6 hrZ.out
     have xl5 := row_lt hrO.out
     have zl5 := row_lt hrZ.out
     clear hB
     go_wp2_with fail
     refine bodyPost_ret (v := .tuple #[.agg #[.int .i64 6, .bool false, .int .i64 0, .string ⟨#[]⟩, .slice B4 nk b4, .slice B5 nv b5], .bool true]) (by simp only [results, Tryz.results149]; go_simp) rfl (put_yes HF.out (HO.out.carry (fun b hb => Eq.trans (Aside.block (S := fun b => b = w.heap.size + 2) (w := w5) asd b (by have := hb.2; omega) (by have := hb.1; omega)) (H5.out.block b hb.2)) (fun b hb => by have q1 := hb.1; have q2 := hb.2; (try simp); omega)) (HB5.out.trans (Aside.below (S := fun b => b = w.heap.size + 2) asd HB5.out.size (fun i hi => by omega))))
    ·have hB0 : okT (n + 1) (putD d key kid) = false := by simpa using hB
     have HF := hid (Hbf.out.trans hB0)
     rw [hB0]
     obtain ⟨a0, a1, a2, a3, a4, a5, af⟩ := row6 hrA.out
     have al5 := row_lt hrA.out
     have zl1 := row_lt hrZ.out
     have hbr5 := HB5.out
     clear hB hB0
     go_wp2_with fail
     refine (all_l08 (n + 1) d _ _ lo (HC.out.now bel) hn).mono ?_
     rintro e wc ⟨cs1, rfl, hO, hbc⟩
     obtain ⟨C4, d4, C5, d5, rfl, -⟩ := hO.flat
     have Zc := (hbc.block (w.heap.size + 2) (row_lt hrZ.out)).trans hrZ.out
     have zl := row_lt Zc
     obtain ⟨z0, z1, z2, z3, z4, z5, zf⟩ := row6 Zc
     have HO := hid hO
     have Bc : Below w.heap.size w wc := HB5.out.trans (hbc.mono HB5.out.size)
     have hzc := hbc.size
     clear Zc hO hbc
     go_wp2_with fail
     refine bodyPost_ret (v := .tuple #[.agg #[.int .i64 d.kind, .bool d.flag, .int .i64 d.num, .string d.text, .slice C4 d.keys.length d4, .slice C5 d.kids.length d5], .bool false]) (by simp only [results, Tryz.results149]; go_simp) rfl (put_no HF.out (HO.out.carry (fun b hb => Aside.block (S := fun b => b = w.heap.size + 2) (w := wc) asd b hb.2 (by have q1 := hb.1; (try simp at q1); omega)) (fun b hb => by have q1 := hb.1; have q2 := hb.2; (try simp at q1); (try simp at q2); (try simp); omega)) (Bc.trans (Aside.below (S := fun b => b = w.heap.size + 2) asd Bc.size (fun i hi => by omega))))
theorem c_PutKid (n : Nat) (d kid : TreeD) (cs es : List Value) (key : ByteArray) (w : World) (lo : Nat) (h : C_Tree (n + 1) lo w.heap.size w d cs) (hkd : C_Tree n lo w.heap.size w kid es) (hkey : key.size <= 9223372036854775807) (hz : sizeT (n + 1) d <= 1073741824) (hkz : sizeT n kid <= 1048576) (hn : nTree (n + 1) d <= 1048576) (hkn : nTree n kid <= 1048576) : Calls Tryz.prog 149 #[.agg cs.toArray, .string key, .agg es.toArray] w (PutP n d key kid w) := by
 by_cases hd : d.kind = 6
 ·by_cases ho : okT (n + 1) d = true
  ·exact c_put_main n d kid cs es key w lo h hkd hkey hz hkz hn hkn hd ho
  ·exact c_put_not n d kid cs es key w lo h hkd hkey hz hkz hn hkn hd (by simpa using ho)
 ·exact c_put_kind n d kid cs es key w lo h hkd hkey hz hkz hn hkn hd
open Go.RowKit Go.ChangeShapes Go.WideShapes Go.ChangeAt
def C_Byte (b : UInt8) (cs : List Value) : Prop := cs = [.int .u8 b.toNat]
def CurAt (code : List UInt8) (p : Nat) (w : World) : Prop :=
 ∃ A c i h, w.heap[p]? = some (.cells #[.slice A code.length c, .int .i64 (i : Nat), .int .i64 h] 136 (0, 0)) /\ I64 h /\ i <= code.length /\ code.length <= 1048576 /\ SlOf C_Byte 1 0 p w code (.slice A code.length c)
structure Dr (code : List UInt8) (p : Nat) (w w' : World) : Prop where
 aside : Aside (fun b => b = p) w w'
 cur : CurAt code p w'
theorem CurAt.lt {code : List UInt8} {p : Nat} {w : World} (h : CurAt code p w) : p < w.heap.size := by
 obtain ⟨A, c, i, x, hg, -⟩ := h
 exact row_lt hg
theorem CurAt.keep {code : List UInt8} {p : Nat} {w w' : World} (h : CurAt code p w) (hb : ∀ b, b <= p -> w'.heap[b]? = w.heap[b]?) : CurAt code p w' := by
 obtain ⟨A, c, i, x, hg, h1, h2, h3, h4⟩ := h
 exact ⟨A, c, i, x, (hb p (Nat.le_refl _)).trans hg, h1, h2, h3, SlOf.keep h4 (fun b o _ hlt => World.cell?_of_block (hb b (Nat.le_of_lt hlt))) (Nat.le_refl _) (Nat.le_refl _) (fun _ _ _ h => h)⟩
theorem CurAt.below {code : List UInt8} {p : Nat} {w w' : World} (h : CurAt code p w) (hb : Below w.heap.size w w') : CurAt code p w' := h.keep (fun b hle => hb.block b (Nat.lt_of_le_of_lt hle h.lt))
theorem Dr.refl {code : List UInt8} {p : Nat} {w : World} (h : CurAt code p w) : Dr code p w w := ⟨Aside.refl _ _, h⟩
theorem Dr.trans {code : List UInt8} {p : Nat} {a b c : World} (h : Dr code p a b) (k : Dr code p b c) : Dr code p a c := ⟨h.aside.trans k.aside, k.cur⟩
theorem Dr.step {code : List UInt8} {p : Nat} {a b c : World} (h : Dr code p a b) (k : Below b.heap.size b c) : Dr code p a c := ⟨h.aside.trans (Aside.of_below k), h.cur.below k⟩
theorem Dr.cell {code : List UInt8} {p : Nat} {a b : World} (h : Dr code p a b) {g o : Nat} (hg : g < a.heap.size) (hp : g ≠ p) : b.cell? ⟨g, o, none⟩ = a.cell? ⟨g, o, none⟩ := World.cell?_of_block (h.aside.block g hg hp)
theorem Dr.below {code : List UInt8} {p B : Nat} {a b : World} (h : Dr code p a b) (hB : B <= a.heap.size) (hp : B <= p) : Below B a b := h.aside.below hB (fun b hb => by subst hb; exact hp)
theorem i64_and255 (n : Int) : bits .and .i64 n 255 = n % 256 := by
 have h255 : (BitVec.ofInt 64 255).toNat = 2 ^ 8 - 1 := by decide
 have key : (BitVec.ofInt 64 n &&& BitVec.ofInt 64 255).toNat = (n % ((2 ^ 64 : Nat) : Int)).toNat % 2 ^ 8 := by
  rw [BitVec.toNat_and, BitVec.toNat_ofInt, h255, Nat.and_two_pow_sub_one_eq_mod]
 show IntKind.i64.wrap ((BitVec.ofInt 64 n &&& BitVec.ofInt 64 255).toNat : Nat) = n % 256
 rw [key, IntKind.wrap_i64]
 omega
theorem m255 (n : Int) : 0 <= n % 256 /\ n % 256 <= 255 := by omega
theorem w64_I64 (n : Int) : I64 (wrap64 n) := by
 unfold wrap64 I64
 omega
theorem c_l01Byte (code : List UInt8) (p : Nat) (w : World) (h : CurAt code p w) :
  Calls Tryz.prog 164 #[.pointer (some ⟨p, 0, none⟩)] w fun e w' => ∃ x : Int, e = .returned (.int .i64 x) /\ 0 <= x /\ x <= 255 /\ Dr code p w w' := by
 have hcur := h
 obtain ⟨A, c, i, h0, hg, hh, hi, hn, hs⟩ := h
 obtain ⟨c0, c1, c2, cf⟩ := row3 hg
 have hpl := row_lt hg
 have hand := i64_and255
 have Hs := Lib.hid hs
 go_enter Tryz.func164, Tryz.ntmps164
 go_wp2_with fail
 have hXI := w64_I64 (wrap64 (h0 * 6364136223846793005) + 1442695040888963407)
 generalize wrap64 (wrap64 (h0 * 6364136223846793005) + 1442695040888963407) = X at *
 have hg1 : (w.setCell ⟨p, 2, none⟩ (.int .i64 X)).heap[p]? = some (.cells #[.slice A code.length c, .int .i64 (i : Nat), .int .i64 X] 136 (0, 0)) := heap_setCell_same w p 2 _ _ _ hg
 have hA1 : Aside (fun b => b = p) w (w.setCell ⟨p, 2, none⟩ (.int .i64 X)) := Aside.setCell (p := ⟨p, 2, none⟩) (Aside.refl _ _) rfl
 generalize w.setCell ⟨p, 2, none⟩ (.int .i64 X) = w1 at *
 clear c0 c1 c2 cf hg hs hcur
 obtain ⟨c0, c1, c2, cf⟩ := row3 hg1
 have hpl1 := row_lt hg1
 refine wp_region_det 12 (by kernel_rfl) (by kernel_rfl) (by decide) ?_
 iterate 3 refine ds ?_
 refine ds ?_
 iterate 4 refine ds ?_
 refine ds ?_
 iterate 3 refine ds ?_
 intro w1 hb
 (first | (have hcu2 := Cum.join hcu hb; (try clear hcu); (try clear hc); (try clear hfz); (try clear hsz); (try clear hs0); (try clear hs1); (try clear hs2); (try clear hs3); (try clear hs4); ) | have hcu2 := Cum.mk hb); have hcu := hcu2; clear hcu2; obtain ⟨hc, hfz⟩ := bcell hcu.h; have hsz := hcu.h.size; (try simp at hsz); (try have hs0 := lt_of_succ_le hsz); (try (have hs1 := lt_pred hsz; (try (have hs2 := lt_pred hs1; (try (have hs3 := lt_pred hs2; (try have hs4 := lt_pred hs3)))))))
 (try simp only [Act.put, List.setIfInBounds_toArray, List.set_cons_zero, List.set_cons_succ])
 (try simp only [List.drop_succ_cons, List.drop_zero])
 have hg2 := (hb.block p hpl1).trans hg1
 have hA2 := hA1.trans (Aside.of_below hb)
 have hpl2 := row_lt hg2
 clear c0 c1 c2 cf hg1 hA1 hpl1 hb
 (try clear hcu); (try clear hc); (try clear hfz); (try clear hsz); (try clear hs0); (try clear hs1); (try clear hs2); (try clear hs3); (try clear hs4)
 obtain ⟨c0, c1, c2, cf⟩ := row3 hg2
 have hki : (i : Int) <= 9223372036854775806 := by omega
 have hkn : (code.length : Int) <= 9223372036854775806 := by omega
 by_cases hlt : i < code.length
 ·have hlt2 : (i : Int) < code.length := by omega
  have hlt0 : (0 : Int) <= i := by omega
  go_wp2_with fail
  refine wp_region_det 10 (by kernel_rfl) (by kernel_rfl) (by decide) ?_
  iterate 3 refine ds ?_
  refine ds ?_
  iterate 3 refine ds ?_
  refine ds ?_
  iterate 2 refine ds ?_
  intro w1 hb
  (first | (have hcu2 := Cum.join hcu hb; (try clear hcu); (try clear hc); (try clear hfz); (try clear hsz); (try clear hs0); (try clear hs1); (try clear hs2); (try clear hs3); (try clear hs4); ) | have hcu2 := Cum.mk hb); have hcu := hcu2; clear hcu2; obtain ⟨hc, hfz⟩ := bcell hcu.h; have hsz := hcu.h.size; (try simp at hsz); (try have hs0 := lt_of_succ_le hsz); (try (have hs1 := lt_pred hsz; (try (have hs2 := lt_pred hs1; (try (have hs3 := lt_pred hs2; (try have hs4 := lt_pred hs3)))))))
  (try simp only [Act.put, List.setIfInBounds_toArray, List.set_cons_zero, List.set_cons_succ])
  (try simp only [List.drop_succ_cons, List.drop_nil])
  have hg3 := (hb.block p hpl2).trans hg2
  have hA3 := hA2.trans (Aside.of_below hb)
  have hpl3 := row_lt hg3
  clear c0 c1 c2 cf hg2 hA2 hpl2 hb
  (try clear hcu); (try clear hc); (try clear hfz); (try clear hsz); (try clear hs0); (try clear hs1); (try clear hs2); (try clear hs3); (try clear hs4)
  obtain ⟨c0, c1, c2, cf⟩ := row3 hg3
  obtain ⟨A', c', hv, -, -, hbytes⟩ := Hs.out
  simp only [Value.slice.injEq, true_and] at hv
  obtain ⟨rfl, rfl⟩ := hv
  obtain ⟨b, o, rfl, -, hbp, hcell⟩ := hbytes (by omega)
  obtain ⟨y, hy⟩ := exists_at hlt
  obtain ⟨es, -, hes, rfl⟩ := hcell i y hy
  have hbw : b < w.heap.size := by omega
  have hbne : ¬ b = p := by omega
  have hby : w1.cell? ⟨b, o + i, none⟩ = some (.int .u8 y.toNat) := by
   rw [World.cell?_of_block (hA3.block b hbw hbne)]
   have := hes 0 (by omega)
   simpa using this
  have hbl3 : b < w1.heap.size := by omega
  have hy8 : (y.toNat : Int) <= 255 := by have := y.toNat_lt; omega
  have hy0 : (0 : Int) <= y.toNat := by omega
  clear hes hcell hbytes hy
  go_wp2_with fail
  refine wp_region_det 14 (by kernel_rfl) (by kernel_rfl) (by decide) ?_
  iterate 4 refine ds ?_
  refine ds ?_
  iterate 3 refine ds ?_
  refine ds ?_
  refine ds ?_
  refine ds ?_
  iterate 3 refine ds ?_
  intro w1 hb
  (first | (have hcu2 := Cum.join hcu hb; (try clear hcu); (try clear hc); (try clear hfz); (try clear hsz); (try clear hs0); (try clear hs1); (try clear hs2); (try clear hs3); (try clear hs4); ) | have hcu2 := Cum.mk hb); have hcu := hcu2; clear hcu2; obtain ⟨hc, hfz⟩ := bcell hcu.h; have hsz := hcu.h.size; (try simp at hsz); (try have hs0 := lt_of_succ_le hsz); (try (have hs1 := lt_pred hsz; (try (have hs2 := lt_pred hs1; (try (have hs3 := lt_pred hs2; (try have hs4 := lt_pred hs3)))))))
  (try simp only [Act.put, List.setIfInBounds_toArray, List.set_cons_zero, List.set_cons_succ])
  (try simp only [List.drop_succ_cons, List.drop_zero])
  have hg4 := (hb.block p hpl3).trans hg3
  have hA4 := hA3.trans (Aside.of_below hb)
  have hpl4 := row_lt hg4
  clear c0 c1 c2 cf hg3 hA3 hpl3 hb
  (try clear hcu); (try clear hc); (try clear hfz); (try clear hsz); (try clear hs0); (try clear hs1); (try clear hs2); (try clear hs3); (try clear hs4)
  obtain ⟨c0, c1, c2, cf⟩ := row3 hg4
  go_wp2_with fail
  go_ret
  refine ⟨_, rfl, (m255 _).1, (m255 _).2, hA4.setCell (p := ⟨p, 1, none⟩) rfl, _, _, i + 1, X, ?_, hXI, by omega, hn, Hs.out.keep (fun b o _ hlt => World.cell?_of_block ((Aside.setCell (p := ⟨p, 1, none⟩) hA4 rfl).block b (by omega) (by omega))) (Nat.le_refl _) (Nat.le_refl _) (fun _ _ _ h => h)⟩
  rw [show ((i + 1 : Nat) : Int) = (i : Int) + 1 from by omega]
  exact heap_setCell_same _ p 1 _ _ _ hg4
 ·have hlt2 : ¬ (i : Int) < code.length := by omega
  go_wp2_with fail
  refine wp_region_det 10 (by kernel_rfl) (by kernel_rfl) (by decide) ?_
  iterate 3 refine ds ?_
  refine ds ?_
  iterate 3 refine ds ?_
  refine ds ?_
  iterate 2 refine ds ?_
  intro w1 hb
  (first | (have hcu2 := Cum.join hcu hb; (try clear hcu); (try clear hc); (try clear hfz); (try clear hsz); (try clear hs0); (try clear hs1); (try clear hs2); (try clear hs3); (try clear hs4); ) | have hcu2 := Cum.mk hb); have hcu := hcu2; clear hcu2; obtain ⟨hc, hfz⟩ := bcell hcu.h; have hsz := hcu.h.size; (try simp at hsz); (try have hs0 := lt_of_succ_le hsz); (try (have hs1 := lt_pred hsz; (try (have hs2 := lt_pred hs1; (try (have hs3 := lt_pred hs2; (try have hs4 := lt_pred hs3)))))))
  (try simp only [Act.put, List.setIfInBounds_toArray, List.set_cons_zero, List.set_cons_succ])
  (try simp only [List.drop_succ_cons, List.drop_nil])
  have hg3 := (hb.block p hpl2).trans hg2
  have hA3 := hA2.trans (Aside.of_below hb)
  have hpl3 := row_lt hg3
  clear c0 c1 c2 cf hg2 hA2 hpl2 hb
  (try clear hcu); (try clear hc); (try clear hfz); (try clear hsz); (try clear hs0); (try clear hs1); (try clear hs2); (try clear hs3); (try clear hs4)
  obtain ⟨c0, c1, c2, cf⟩ := row3 hg3
  go_wp2_with fail
  go_ret
  exact ⟨_, rfl, (m255 _).1, (m255 _).2, hA3, _, _, i, X, hg3, hXI, hi, hn, Hs.out.keep (fun b o _ hlt => World.cell?_of_block (hA3.block b (by omega) (by omega))) (Nat.le_refl _) (Nat.le_refl _) (fun _ _ _ h => h)⟩
theorem Dr.pre {code : List UInt8} {p : Nat} {a b c : World} (h : Aside (fun b => b = p) a b) (k : Dr code p b c) : Dr code p a c := ⟨h.trans k.aside, k.cur⟩
theorem Dr.alloc {code : List UInt8} {p : Nat} {a b : World} (h : Dr code p a b) (o : Obj) : Dr code p a (b.alloc o) := h.step (ext_alloc (Below.refl _ _))
theorem aside_new {S : Nat -> Prop} {a b : World} (h : Aside S a b) {q o : Nat} (hq : a.heap.size <= q) (u : Value) : Aside S a (b.setCell ⟨q, o, none⟩ u) :=
 ⟨h.os, h.tape, h.output, by have := h.size; simp [World.setCell]; omega, fun i hi hn => (Below.heap_setCell b ⟨q, o, none⟩ u i (by simp; omega)).trans (h.block i hi hn)⟩
theorem Dr.set {code : List UInt8} {p : Nat} {a b : World} (h : Dr code p a b) (hp : p < a.heap.size) {q o : Nat} (hq : a.heap.size <= q) (u : Value) : Dr code p a (b.setCell ⟨q, o, none⟩ u) :=
 ⟨aside_new h.aside hq u, h.cur.keep (fun i hle => Below.heap_setCell b ⟨q, o, none⟩ u i (by simp; omega))⟩
theorem Dr.cut {code : List UInt8} {p : Nat} {a b : World} {o : Obj} (h : Dr code p (a.alloc o) b) : Dr code p a b := Dr.pre (aside_alloc (Aside.refl _ _)) h
theorem Dr.block {code : List UInt8} {p : Nat} {a b : World} (h : Dr code p a b) {g : Nat} (hg : g < a.heap.size) (hp : g ≠ p) : b.heap[g]? = a.heap[g]? := h.aside.block g hg hp
theorem Dr.size {code : List UInt8} {p : Nat} {a b : World} (h : Dr code p a b) : a.heap.size <= b.heap.size := h.aside.size
theorem sl_lit (w : World) (ss : List ByteArray) (hs : ∀ s ∈ ss, s.size <= 9223372036854775807) (hn : ss.length <= 9223372036854775807) (ty : TypeId) (cs : Array Value) (hc : cs = (ss.map Value.string).toArray) :
  Sl_Str w.heap.size (w.alloc (.cells cs ty)).heap.size (w.alloc (.cells cs ty)) ss (.slice (some ⟨w.heap.size, 0, none⟩) ss.length ss.length) := by
 subst hc
 refine ⟨_, _, rfl, Nat.le_refl _, hn, fun _ => ⟨w.heap.size, 0, rfl, Nat.le_refl _, by simp, fun i d hd => ⟨[.string d], rfl, fun j hj => ?_, rfl, hs d (List.mem_of_getElem? hd)⟩⟩⟩
 obtain rfl : j = 0 := by omega
 rw [cell_of_row _ _ _ _ _ _ (heap_alloc_new w _)]
 simp [hd]
theorem c_l01Below (code : List UInt8) (p : Nat) (n : Int) (w : World) (h : CurAt code p w) (hn : -9223372036854775808 <= n /\ n <= 9223372036854775807) :
  Calls Tryz.prog 88 #[.pointer (some ⟨p, 0, none⟩), .int .i64 n] w fun e w' => ∃ x : Int, e = .returned (.int .i64 x) /\ 0 <= x /\ (0 < n -> x < n) /\ (n <= 0 -> x = 0) /\ Dr code p w w' := by
 obtain ⟨hn1, hn2⟩ := hn
 have H := Lib.hid h
 clear h
 by_cases h0 : n <= 0
 ·go_enter Tryz.func88, Tryz.ntmps88
  go_wp2_with fail
  go_ret
  exact ⟨0, rfl, Int.le_refl _, fun h => by omega, fun _ => rfl, Dr.refl H.out⟩
 ·have h1 : 0 < n := by omega
  by_cases h2 : n <= 256
  ·go_enter Tryz.func88, Tryz.ntmps88
   go_wp2_with fail
   refine (c_l01Byte code p _ H.out).mono ?_
   rintro e w1 ⟨x, rfl, hx0, hx1, hd⟩
   have HD := Lib.hid hd
   clear hd
   go_wp2_with fail
   go_ret
   exact ⟨_, rfl, Int.emod_nonneg _ (by omega), fun _ => Int.emod_lt_of_pos _ h1, fun h => by omega, HD.out⟩
  ·go_enter Tryz.func88, Tryz.ntmps88
   go_wp2_with fail
   refine (c_l01Byte code p _ H.out).mono ?_
   rintro e w1 ⟨x, rfl, hx0, hx1, hd⟩
   have HD := Lib.hid hd
   clear hd
   go_wp2_with fail
   refine (c_l01Byte code p _ HD.out.cur).mono ?_
   rintro e w2 ⟨y, rfl, hy0, hy1, hd⟩
   have HD2 := Lib.hid (HD.out.trans hd)
   clear hd
   go_wp2_with fail
   refine (c_l01Byte code p _ HD2.out.cur).mono ?_
   rintro e w3 ⟨z, rfl, hz0, hz1, hd⟩
   have HD3 := Lib.hid (HD2.out.trans hd)
   clear hd
   go_wp2_with fail
   refine (c_l01Byte code p _ HD3.out.cur).mono ?_
   rintro e w4 ⟨u, rfl, hu0, hu1, hd⟩
   have HD4 := Lib.hid (HD3.out.trans hd)
   clear hd
   go_wp2_with fail
   go_ret
   exact ⟨_, rfl, Int.emod_nonneg _ (by omega), fun _ => Int.emod_lt_of_pos _ h1, fun h => by omega, HD4.out⟩
theorem c_l01Once (code : List UInt8) (p : Nat) (n : Int) (w : World) (h : CurAt code p w) (hn : -9223372036854775808 <= n /\ n <= 9223372036854775807) :
  Calls Tryz.prog 87 #[.pointer (some ⟨p, 0, none⟩), .int .i64 n] w fun e w' => ∃ x : Bool, e = .returned (.bool x) /\ Dr code p w w' := by
 go_enter Tryz.func87, Tryz.ntmps87
 go_wp2_with fail
 refine (c_l01Below code p n _ h hn).mono ?_
 rintro e w1 ⟨x, rfl, -, -, -, hd⟩
 go_wp2_with fail
 go_ret
 exact ⟨_, rfl, hd⟩
theorem c_l01Pick (code : List UInt8) (p : Nat) (l : List ByteArray) (v : Value) (lo : Nat) (w : World) (h : CurAt code p w) (hl : Sl_Str lo w.heap.size w l v) (hp : p < lo) (h1 : 0 < l.length) (h2 : l.length <= 1048576) :
  Calls Tryz.prog 169 #[.pointer (some ⟨p, 0, none⟩), v] w fun e w' => ∃ s : ByteArray, e = .returned (.string s) /\ s ∈ l /\ Dr code p w w' := by
 have Hl := Lib.hid hl
 obtain ⟨A, c, rfl, hlc, hc, hA⟩ := hl
 obtain ⟨b, o, rfl, hb1, hb2, hcell⟩ := hA h1
 have hi1 : (0 : Int) < l.length := by omega
 have HC := Lib.hid hcell
 clear hA hcell
 go_enter Tryz.func169, Tryz.ntmps169
 go_wp2_with fail
 refine (c_l01Below code p l.length _ h (by omega)).mono ?_
 rintro e w1 ⟨x, rfl, hx0, hx1, -, hd⟩
 have hx2 := hx1 hi1
 obtain ⟨k, rfl⟩ : ∃ k : Nat, x = k := ⟨x.toNat, by omega⟩
 obtain ⟨s, hs⟩ := exists_at (show k < l.length by omega)
 obtain ⟨es, -, hes, rfl, -⟩ := HC.out k s hs
 have hy : w1.cell? ⟨b, o + k, none⟩ = some (.string s) := by
  have := hes 0 (by omega)
  rw [hd.cell hb2 (by omega)]
  simpa using this
 have Hs := Lib.hid (List.mem_of_getElem? hs)
 clear hes hs hx1
 have HD := Lib.hid hd
 clear hd
 go_wp2_with fail
 go_ret
 exact ⟨s, rfl, Hs.out, HD.out⟩
theorem i64_and30 (n : Int) : bits .and .i64 n 1073741823 = n % 1073741824 := by
 have h255 : (BitVec.ofInt 64 1073741823).toNat = 2 ^ 30 - 1 := by decide
 have key : (BitVec.ofInt 64 n &&& BitVec.ofInt 64 1073741823).toNat = (n % ((2 ^ 64 : Nat) : Int)).toNat % 2 ^ 30 := by
  rw [BitVec.toNat_and, BitVec.toNat_ofInt, h255, Nat.and_two_pow_sub_one_eq_mod]
 show IntKind.i64.wrap ((BitVec.ofInt 64 n &&& BitVec.ofInt 64 1073741823).toNat : Nat) = n % 1073741824
 rw [key, IntKind.wrap_i64]
 omega
theorem m30_I64 (n : Int) : I64 (n % 1073741824) := by unfold I64; omega
theorem c_l01New (code : List UInt8) (v : Value) (lo : Nat) (w : World) (hs : SlOf C_Byte 1 lo w.heap.size w code v) (hn : code.length <= 1048576) :
  Calls Tryz.prog 80 #[v] w fun e w' => ∃ p : Nat, e = .returned (.pointer (some ⟨p, 0, none⟩)) /\ w.heap.size <= p /\ CurAt code p w' /\ Below w.heap.size w w' := by
 have Hs := Lib.hid hs
 obtain ⟨A, c, rfl, hlc, hc, hA⟩ := hs
 have HA := Lib.hid hA
 have hand := i64_and30
 clear hA
 go_enter Tryz.func80, Tryz.ntmps80
 go_wp2_with fail
 go_loopw [3, 4] (fun s3 s4 wr => ∃ (x : Int) (k : Nat), s3 = .int .i64 x /\ I64 x /\ s4 = .int .i64 k /\ k <= code.length /\ wr = w) (fun _ s4 _ => code.length - (intOf s4).toNat)
 case atStart => exact ⟨_, 0, rfl, ⟨by omega, by omega⟩, rfl, Nat.zero_le _, rfl⟩
 case round =>
  obtain ⟨x, k, rfl, hx, rfl, hk, rfl⟩ := hrel
  have Hx := Lib.hid hx
  clear hx
  have fin : CurAt code wr.heap.size (wr.alloc (.cells #[.slice A code.length c, .int .i64 0, .int .i64 x] 136)) :=
   ⟨A, c, 0, x, heap_alloc_new _ _, Hx.out, Nat.zero_le _, hn, Hs.out.keep (fun b o _ hlt => World.cell?_of_block (Below.heap_alloc _ _ _ hlt)) (Nat.zero_le _) (Nat.le_refl _) (fun _ _ _ h => h)⟩
  have Fin := Lib.hid fin
  clear fin
  by_cases hlt : k < code.length
  ·by_cases h4 : k < 4000
   ·obtain ⟨b, o, rfl, -, hbp, hcell⟩ := HA.out (by omega)
    obtain ⟨y, hy⟩ := exists_at hlt
    obtain ⟨es, -, hes, rfl⟩ := hcell k y hy
    have hby : wr.cell? ⟨b, o + k, none⟩ = some (.int .u8 y.toNat) := by
     have := hes 0 (by omega)
     simpa using this
    have hk0 : (0 : Int) <= k := by omega
    have hk1 : (k : Int) < code.length := by omega
    have hk2 : (k : Int) < 4000 := by omega
    have hy8 : (y.toNat : Int) <= 255 := by have := y.toNat_lt; omega
    have hy0 : (0 : Int) <= y.toNat := by omega
    clear hes hcell hy
    go_wp2_with fail
    go_roundw
    case rel => exact ⟨_, k + 1, rfl, m30_I64 _, by go_num, by omega, by first | trivial | rfl⟩
    case measure => simp [intOf]; omega
   ·have hk1 : (k : Int) < code.length := by omega
    have hk2 : ¬ (k : Int) < 4000 := by omega
    go_wp2_with fail
    go_ret
    exact ⟨_, rfl, Nat.le_refl _, Fin.out, bel⟩
  ·have hk1 : ¬ (k : Int) < code.length := by omega
   go_wp2_with fail
   go_ret
   exact ⟨_, rfl, Nat.le_refl _, Fin.out, bel⟩
theorem c_laws_big_no (code : List UInt8) (A : Option Addr) (c : Nat) (w : World) (h : code.length <= 1048576) :
  Calls Tryz.prog 16 #[.slice A code.length c] w fun e w' => e = .returned (.bool false) /\ w = w' := by
 have h1 : ¬ (1048576 : Int) < code.length := by omega
 have h2 : decide ((1048576 : Int) < code.length) = false := decide_eq_false h1
 go_enter Tryz.func16, Tryz.ntmps16
 go_wp2_with fail
 go_ret
 exact ⟨by first | rfl | (rw [h2]; rfl), rfl⟩
theorem c_laws_big_yes (code : List UInt8) (A : Option Addr) (c : Nat) (w : World) (h : ¬ code.length <= 1048576) :
  Calls Tryz.prog 16 #[.slice A code.length c] w fun e w' => e = .returned (.bool true) /\ w = w' := by
 have h1 : (1048576 : Int) < code.length := by omega
 have h2 : decide ((1048576 : Int) < code.length) = true := decide_eq_true h1
 go_enter Tryz.func16, Tryz.ntmps16
 go_wp2_with fail
 go_ret
 exact ⟨by first | rfl | (rw [h2]; rfl), rfl⟩
section
variable {H : Type} {enc : TypeId × Value -> H} {w : World} {base : Nat} {spare : Nat -> Bool} {held : Bool} {fuel : Nat} {cs : List Value} {x : DataW H × List MemPlace} {r : Reach} {b0 : Nat} {v : Value} {d : DataW H} {p : List MemPlace}
theorem cell_u8 {t : TypeId} (ht : Tryz.prog.underlying t = some (.int .u8)) (h : DataW.trod enc Tryz.prog w base spare held fuel t cs = some x) : ∃ b : UInt8, C_Byte b cs := by
 obtain ⟨n, h1, -, h2⟩ := DataW.trod_int ht h
 have hn : 0 <= n /\ n <= 255 := by
  simp [Lit.wf, IntKind.min, IntKind.max, IntKind.signed, IntKind.bits] at h2
  omega
 refine ⟨UInt8.ofNat n.toNat, ?_⟩
 unfold C_Byte
 rw [h1, UInt8.toNat_ofNat']
 congr 2
 omega
theorem o_bytes (h : DataW.trod enc Tryz.prog w base spare held fuel 28 cs = some x) : ∃ v l, cs = [v] /\ SlOf C_Byte 1 0 w.heap.size w l v :=
 slice_cells C_Byte Tryz.underlying28 (by kernel_rfl) (by decide) h (fun _ _ _ h' => cell_u8 Tryz.underlying5 h')
abbrev R_bytes (w : World) (l : List UInt8) (v : Value) : Prop := SlOf C_Byte 1 0 w.heap.size w l v
theorem r_bytes (hv : Value.okWide Tryz.prog w r b0 28 v) (h : DataW.Trod enc Tryz.prog w base spare held 28 v d p) : ∃ x, R_bytes w x v := by
 obtain ⟨a, len, cap, rfl⟩ := okWide_slice Tryz.underlying28 hv
 obtain ⟨fuel, hf⟩ := h
 obtain ⟨v', l, he, hs⟩ := o_bytes hf
 simp [Value.cells] at he
 subst he
 exact ⟨l, hs⟩
end
end Go.Proofs.YtohcpifekcehjaaGreatDoor
