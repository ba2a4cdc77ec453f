/- Steps to FnCrossed. No conditions. -/
import Derived.Test.YtohcpifekcehjaaGreatDoorKfcr10
import Derived.Test.YtohcpifekcehjaaGreatDoorKfcr11
import Derived.Test.YtohcpifekcehjaaGreatDoorKfcr8
import Derived.Deep.RegionLaw
import Derived.Test.YtohcpifekcehjaaGreatDoorKfcr5
import Derived.Test.YtohcpifekcehjaaGreatDoorKfcr1
import Derived.Test.YtohcpifekcehjaaGreatDoorKfcr4
import Derived.Deep.CutRange
import Derived.Deep.RegionHeld3
import Derived.Test.YtohcpifekcehjaaGreatDoorKfcr9
import Derived.Test.YtohcpifekcehjaaGreatDoorKfcr7
import Derived.Test.YtohcpifekcehjaaGreatDoorKfcr2
import Derived.Lib.LazyBuf
import Derived.Test.YtohcpifekcehjaaGreatDoorKfcr6
import Derived.Test.YtohcpifekcehjaaGreatDoorKfcr3
import Derived.Deep.CutBlock
set_option maxHeartbeats 16000000
set_option maxRecDepth 20000
namespace Go.Proofs.YtohcpifekcehjaaGreatDoor
open Go.RowKit Go.Lib
structure PutSt where
 laid : Bool
 ks : List ByteArray
 vs : List TreeD
def putOne (key : ByteArray) (kid : TreeD) (st : PutSt) (k : ByteArray) (v : TreeD) : PutSt :=
 if !st.laid && !lessS k key then (if k = key then ⟨true, st.ks ++ [key], st.vs ++ [kid]⟩ else ⟨true, (st.ks ++ [key]) ++ [k], (st.vs ++ [kid]) ++ [v]⟩)
 else (if k = key then st else ⟨st.laid, st.ks ++ [k], st.vs ++ [v]⟩)
def putS (key : ByteArray) (kid : TreeD) (ks : List ByteArray) (vs : List TreeD) : Nat -> PutSt
 | 0 => ⟨false, [], []⟩
 | i + 1 => match ks[i]?, vs[i]? with | some k, some v => putOne key kid (putS key kid ks vs i) k v | _, _ => putS key kid ks vs i
theorem putS_next {key : ByteArray} {kid : TreeD} {ks : List ByteArray} {vs : List TreeD} {i : Nat} {k : ByteArray} {v : TreeD} (hk : ks[i]? = some k) (hv : vs[i]? = some v) : putS key kid ks vs (i + 1) = putOne key kid (putS key kid ks vs i) k v := by
 rw [putS, hk, hv]
def putE (key : ByteArray) (kid : TreeD) (st : PutSt) : PutSt := if st.laid then st else ⟨true, st.ks ++ [key], st.vs ++ [kid]⟩
def putD (d : TreeD) (key : ByteArray) (kid : TreeD) : TreeD := tMap (putE key kid (putS key kid d.keys d.kids d.keys.length)).ks (putE key kid (putS key kid d.keys d.kids d.keys.length)).vs
def putB (n : Nat) (d : TreeD) (key : ByteArray) (kid : TreeD) : Bool := d.kind == 6 && okT n d && okT n (putD d key kid)
def putT (n : Nat) (d : TreeD) (key : ByteArray) (kid : TreeD) : TreeD := if putB n d key kid = true then putD d key kid else d
structure PutI (key : ByteArray) (kid : TreeD) (ks : List ByteArray) (vs : List TreeD) (i : Nat) (st : PutSt) : Prop where
 len : st.ks.length = st.vs.length
 cnt : st.ks.length <= i + 1
 cnt0 : st.laid = false -> st.ks.length <= i
 sort : SortK st.ks
 mem : ∀ x ∈ st.ks, x = key ∨ x ∈ ks
 memv : ∀ x ∈ st.vs, x = kid ∨ x ∈ vs
 low : ∀ x ∈ st.ks, ∀ j k, i <= j -> ks[j]? = some k -> lessS x k = true
 yet : st.laid = false -> ∀ x ∈ st.ks, lessS x key = true
theorem sort_push {ks : List ByteArray} {k : ByteArray} (h : SortK ks) (hk : ∀ x ∈ ks, lessS x k = true) : SortK (ks ++ [k]) := by
 unfold SortK at *;rw [List.pairwise_append];refine ⟨h, by simp, fun a ha b hb => ?_⟩;simp at hb;subst hb;exact hk a ha
theorem sort_at {ks : List ByteArray} (h : SortK ks) {i j : Nat} {a b : ByteArray} (hij : i < j) (ha : ks[i]? = some a) (hb : ks[j]? = some b) : lessS a b = true := by
 obtain ⟨g1, g2⟩ := List.getElem?_eq_some_iff.1 ha;obtain ⟨f1, f2⟩ := List.getElem?_eq_some_iff.1 hb;have := List.pairwise_iff_getElem.1 h i j g1 f1 hij;rw [g2, f2] at this;exact this
theorem PutI.push {key : ByteArray} {kid : TreeD} {ks : List ByteArray} {vs : List TreeD} {i : Nat} {k : ByteArray} {v : TreeD} (hs : SortK ks) (hk : ks[i]? = some k) (hv : vs[i]? = some v) {l : Bool} {K : List ByteArray} {V : List TreeD}
  (h1 : K.length = V.length) (h2 : K.length <= i + 1) (h2' : l = false -> K.length <= i) (h3 : SortK K) (h4 : ∀ x ∈ K, x = key ∨ x ∈ ks) (h5 : ∀ x ∈ V, x = kid ∨ x ∈ vs) (h6 : ∀ x ∈ K, ∀ j k, i <= j -> ks[j]? = some k -> lessS x k = true) (h7 : l = false -> ∀ x ∈ K, lessS x key = true) (h8 : l = false -> lessS k key = true) :
  PutI key kid ks vs (i + 1) ⟨l, K ++ [k], V ++ [v]⟩ := by
 refine ⟨by simp [h1], by simp; omega, fun h => by have := h2' h; simp; omega, sort_push h3 (fun x hx => h6 x hx i k (Nat.le_refl _) hk), ?_, ?_, ?_, ?_⟩
 ·intro x hx
  rcases List.mem_append.1 hx with hx | hx
  ·exact h4 x hx
  ·simp at hx; subst hx; exact .inr (List.mem_of_getElem? hk)
 ·intro x hx
  rcases List.mem_append.1 hx with hx | hx
  ·exact h5 x hx
  ·simp at hx; subst hx; exact .inr (List.mem_of_getElem? hv)
 ·intro x hx j y hj hy
  rcases List.mem_append.1 hx with hx | hx
  ·exact h6 x hx j y (by omega) hy
  ·simp at hx; subst hx; exact sort_at hs (by omega) hk hy
 ·intro hl x hx
  rcases List.mem_append.1 hx with hx | hx
  ·exact h7 hl x hx
  ·simp at hx; subst hx; exact h8 hl
theorem PutI.step {key : ByteArray} {kid : TreeD} {ks : List ByteArray} {vs : List TreeD} {i : Nat} {k : ByteArray} {v : TreeD} (hs : SortK ks) (hk : ks[i]? = some k) (hv : vs[i]? = some v) {st : PutSt} (h : PutI key kid ks vs i st) : PutI key kid ks vs (i + 1) (putOne key kid st k v) := by
 obtain ⟨l, K, V⟩ := st;obtain ⟨h1, h2, h2', h3, h4, h5, h6, h7⟩ := h;unfold putOne;dsimp only at *;by_cases c : (!l && !lessS k key) = true
 ·rw [if_pos c]
  simp at c;obtain ⟨rfl, c⟩ := c;have h2 := h2' rfl;have h7 := h7 rfl
  have hmem : ∀ x ∈ K ++ [key], x = key ∨ x ∈ ks := fun x hx => by
   rcases List.mem_append.1 hx with hx | hx
   ·exact h4 x hx
   ·simp at hx; exact .inl hx
  have hmv : ∀ x ∈ V ++ [kid], x = kid ∨ x ∈ vs := fun x hx => by
   rcases List.mem_append.1 hx with hx | hx
   ·exact h5 x hx
   ·simp at hx; exact .inl hx
  by_cases e : k = key
  ·rw [if_pos e]
   subst e;refine ⟨by simp [h1], by simp; omega, fun h => ((by cases h)), sort_push h3 h7, hmem, hmv, ?_, fun h => ((by cases h))⟩;intro x hx j y hj hy;rcases List.mem_append.1 hx with hx | hx
   ·exact h6 x hx j y (by omega) hy
   ·simp at hx; subst hx; exact sort_at hs (by omega) hk hy
  ·rw [if_neg e]
   have hlt : lessS key k = true := lessS_other c e;refine PutI.push hs hk hv (by simp [h1]) (by simp; omega) (fun h => (by cases h)) (sort_push h3 h7) hmem hmv ?_ (fun h => (by cases h)) (fun h => (by cases h));intro x hx j y hj hy;rcases List.mem_append.1 hx with hx | hx
   ·exact h6 x hx j y hj hy
   ·simp at hx
    subst hx;rcases Nat.eq_or_lt_of_le hj with rfl | hj
    ·rw [hk] at hy; cases hy; exact hlt
    ·exact lessS_trans3 hlt (sort_at hs hj hk hy)
 ·rw [if_neg c]
  by_cases e : k = key
  ·rw [if_pos e]
   exact ⟨h1, (show K.length <= i + 1 + 1 by omega), fun h => (show K.length <= i + 1 by have := h2' h; omega), h3, h4, h5, fun x hx j y hj hy => h6 x hx j y (by omega) hy, h7⟩
  ·rw [if_neg e]
   refine PutI.push hs hk hv h1 h2 h2' h3 h4 h5 h6 h7 (fun hl => ?_);subst hl
   simpa using c
theorem putS_inv {key : ByteArray} {kid : TreeD} {ks : List ByteArray} {vs : List TreeD} (hs : SortK ks) (hl : ks.length = vs.length) : ∀ i, i <= ks.length -> PutI key kid ks vs i (putS key kid ks vs i)
 | 0, _ => ⟨rfl, Nat.zero_le _, fun _ => Nat.le_refl _, List.Pairwise.nil, fun x hx => ((by cases hx)), fun x hx => ((by cases hx)), fun x hx => ((by cases hx)), fun _ x hx => ((by cases hx))⟩
 | i + 1, hi => by
  obtain ⟨k, hk⟩ := exists_at (show i < ks.length by omega);obtain ⟨v, hv⟩ := exists_at (show i < vs.length by omega);rw [putS_next hk hv];exact (putS_inv hs hl i (by omega)).step hs hk hv
structure Maps (key : ByteArray) (kid : TreeD) (ks : List ByteArray) (vs : List TreeD) (K : List ByteArray) (V : List TreeD) : Prop where
 len : K.length = V.length
 cnt : K.length <= ks.length + 1
 sort : SortK K
 mem : ∀ x ∈ K, x = key ∨ x ∈ ks
 memv : ∀ x ∈ V, x = kid ∨ x ∈ vs
theorem putE_maps {key : ByteArray} {kid : TreeD} {ks : List ByteArray} {vs : List TreeD} {st : PutSt} (h : PutI key kid ks vs ks.length st) : Maps key kid ks vs (putE key kid st).ks (putE key kid st).vs := by
 obtain ⟨l, K, V⟩ := st;obtain ⟨h1, h2, h2', h3, h4, h5, h6, h7⟩ := h;unfold putE;dsimp only at *;cases l with
 | true => exact ⟨h1, h2, h3, h4, h5⟩
 | false =>
  have := h2' rfl;refine ⟨by simp [h1], by simp; omega, sort_push h3 (h7 rfl), fun x hx => ?_, fun x hx => ?_⟩
  ·rcases List.mem_append.1 hx with hx | hx
   ·exact h4 x hx
   ·simp at hx; exact .inl hx
  ·rcases List.mem_append.1 hx with hx | hx
   ·exact h5 x hx
   ·simp at hx; exact .inl hx
theorem putD_maps {d : TreeD} (key : ByteArray) (kid : TreeD) (hs : SortK d.keys) (hl : d.keys.length = d.kids.length) : ∃ K V, putD d key kid = tMap K V /\ Maps key kid d.keys d.kids K V :=
 ⟨_, _, rfl, putE_maps (putS_inv hs hl _ (Nat.le_refl _))⟩
def szB : Nat -> Nat
 | 0 => 0
 | k + 1 => 1 + 4 * szB k
def syB : Nat -> Nat
 | 0 => 0
 | 1 => 122
 | k + 2 => 2 + 4 * (124 + syB (k + 1))
def ceB : Nat -> Nat
 | 0 => 0
 | k + 1 => 120 + 4 * ceB k
theorem word_none : WordOk ⟨#[]⟩ := word_low (by decide) (by decide)
def WordT : Nat -> TreeD -> Prop
 | 0, _ => False
 | k + 1, d => WordOk d.text /\ (∀ x ∈ d.keys, WordOk x) /\ d.kids.length <= 4 /\ ∀ t ∈ d.kids, WordT k t
structure Drawn (k : Nat) (d : TreeD) : Prop where
 shape : shapeT k d = true
 num : numT k d
 size : sizeT k d <= szB k
 say : (sayL k d).length <= syB k
 cells : nTree k d <= ceB k
 word : WordT k d
theorem depth_le : ∀ (k : Nat) (d : TreeD), depthT k d <= k
 | 0, _ => Nat.le_refl _
 | k + 1, d => by
  rw [depthT_succ];have := mxL_le (f := depthT k) (b := k) (l := d.kids) (fun x _ => depth_le k x);omega
theorem Drawn.ok {k : Nat} {d : TreeD} (h : Drawn k d) (hk : k <= 4) : okT k d = true := by
 have h1 := depth_le k d;have h2 := h.size
 have h3 : szB k <= szB 4 := by
  rcases (show k = 0 ∨ k = 1 ∨ k = 2 ∨ k = 3 ∨ k = 4 by omega) with rfl | rfl | rfl | rfl | rfl <;> decide
 have h4 : szB 4 = 85 := rfl;rw [okT_def, h.shape, decide_eq_true (by omega), decide_eq_true (by omega)];rfl
theorem szL_leB {D : Type} {f : D -> Nat} {B : Nat} : ∀ {l : List D}, (∀ x ∈ l, f x <= B) -> szL f l <= l.length * B
 | [], _ => Nat.zero_le _
 | x :: l, h => by
  have h1 := h x (by simp);have h2 := szL_leB (f := f) (B := B) (l := l) (fun y hy => h y (by simp [hy]));simp only [szL, List.length_cons, Nat.add_mul, Nat.one_mul];omega
theorem syB_pos (k : Nat) : 122 <= syB (k + 1) := by
 cases k with
 | zero => exact Nat.le_refl _
 | succ k => unfold syB; omega
theorem drawn_leaf {k : Nat} {t : TreeD} (h1 : badH t = false) (h2 : WordOk t.text) (h3 : lensOk t = true) (h4 : t.keys = []) (h5 : t.kids = []) (h6 : I64 t.num) (h7 : (sayL (k + 1) t).length <= 122) : Drawn (k + 1) t := by
 have h := leaf_ok (N := k) (d := 1) (by omega) h1 h2.str h3 h4 h5 h6;refine ⟨h.1.shape, h.1.num, ?_, Nat.le_trans h7 (syB_pos k), ?_, h2, fun x hx => (by rw [h4] at hx; cases hx), by rw [h5]; exact Nat.zero_le _, fun x hx => (by rw [h5] at hx; cases hx)⟩
 ·rw [h.2]; unfold szB; omega
 ·rw [nTree_succ, h4, h5]
  have := h2.2;simp only [nL, szL, List.length_nil];unfold ceB;omega
theorem mul4 {m B : Nat} (h : m <= 4) : m * B <= 4 * B := Nat.mul_le_mul_right B h
theorem drawn_list {k : Nat} {l : List TreeD} (hl : l.length <= 4) (h : ∀ t ∈ l, Drawn (k + 1) t) : Drawn (k + 2) (tList l) := by
 have hs : badH (tList l) = false := by unfold badH tList inB; simp
 have m1 := szL_leB (f := sizeT (k + 1)) (B := szB (k + 1)) (l := l) (fun x hx => (h x hx).size);have m2 := szL_leB (f := nTree (k + 1)) (B := ceB (k + 1)) (l := l) (fun x hx => (h x hx).cells);have m3 := szL_leB (f := fun t => (sayL (k + 1) t).length + 1) (B := syB (k + 1) + 1) (l := l) (fun x hx => by have := (h x hx).say; omega);have q1 := mul4 (B := szB (k + 1)) hl;have q2 := mul4 (B := ceB (k + 1)) hl
 have q3 := mul4 (B := syB (k + 1) + 1) hl;refine ⟨shape_mk hs strB_empty rfl (fun i hi => by simp [tList] at hi) (fun t ht => (h t ht).shape), ⟨(show I64 0 from by unfold I64; decide), fun t ht => (h t ht).num⟩, ?_, ?_, ?_, word_none, fun x hx => (by cases hx), hl, fun t ht => (h t ht).word⟩
 ·rw [sizeT_succ]
  show 1 + szL (sizeT (k + 1)) l <= 1 + 4 * szB (k + 1)
  omega
 ·by_cases hne : l = []
  ·subst hne
   show 2 <= 2 + 4 * (124 + syB (k + 1))
   omega
  ·rw [list_len hne]
   show _ <= 2 + 4 * (124 + syB (k + 1))
   omega
 ·rw [nTree_succ]
  show (⟨#[]⟩ : ByteArray).size + nL ByteArray.size [] + nL (nTree (k + 1)) l <= 120 + 4 * ceB (k + 1)
  have e0 : (⟨#[]⟩ : ByteArray).size = 0 := rfl;simp only [nL, szL, List.length_nil];omega
structure MapD (k m : Nat) (ks : List ByteArray) (l : List TreeD) : Prop where
 len : ks.length = l.length
 cnt : ks.length <= m
 sort : SortK ks
 word : ∀ x ∈ ks, WordOk x
 kid : ∀ t ∈ l, Drawn k t
theorem MapD.nil (k : Nat) : MapD k 0 [] [] := ⟨rfl, Nat.le_refl _, List.Pairwise.nil, fun x hx => ((by cases hx)), fun x hx => ((by cases hx))⟩
theorem drawn_map {k : Nat} {ks : List ByteArray} {l : List TreeD} (h : MapD (k + 1) 4 ks l) : Drawn (k + 2) (tMap ks l) := by
 obtain ⟨hlen, hcnt, hsort, hword, hkid⟩ := h;have hl : l.length <= 4 := by omega
 have hs : badH (tMap ks l) = false := by unfold badH tMap inB; simp
 have m1 := szL_leB (f := sizeT (k + 1)) (B := szB (k + 1)) (l := l) (fun x hx => (hkid x hx).size);have m2 := szL_leB (f := nTree (k + 1)) (B := ceB (k + 1)) (l := l) (fun x hx => (hkid x hx).cells);have m3 := szL_leB (f := fun t => (sayL (k + 1) t).length + 1) (B := syB (k + 1) + 1) (l := l) (fun x hx => by have := (hkid x hx).say; omega);have m4 := szL_leB (f := qlen) (B := 123) (l := ks) (fun x hx => by have := (hword x hx).quote; unfold qlen; omega)
 have m5 := szL_leB (f := ByteArray.size) (B := 20) (l := ks) (fun x hx => (hword x hx).2);have q1 := mul4 (B := szB (k + 1)) hl;have q2 := mul4 (B := ceB (k + 1)) hl;have q3 := mul4 (B := syB (k + 1) + 1) hl;refine ⟨shape_mk hs strB_empty (by unfold lensOk tMap; simp [hlen]) (keys_ok hsort (fun x hx => (hword x hx).str)) (fun t ht => (hkid t ht).shape), ⟨(show I64 0 from by unfold I64; decide), fun t ht => (hkid t ht).num⟩, ?_, ?_, ?_, word_none, hword, hl, fun t ht => (hkid t ht).word⟩
 ·rw [sizeT_succ]
  show 1 + szL (sizeT (k + 1)) l <= 1 + 4 * szB (k + 1)
  omega
 ·by_cases hne : l = []
  ·subst hne
   show 2 <= 2 + 4 * (124 + syB (k + 1))
   omega
  ·rw [map_len hne hlen]
   show _ <= 2 + 4 * (124 + syB (k + 1))
   omega
 ·rw [nTree_succ]
  show (⟨#[]⟩ : ByteArray).size + nL ByteArray.size ks + nL (nTree (k + 1)) l <= 120 + 4 * ceB (k + 1)
  have e0 : (⟨#[]⟩ : ByteArray).size = 0 := rfl;simp only [nL];omega
theorem MapD.more {k m m' : Nat} {ks : List ByteArray} {l : List TreeD} (h : MapD k m ks l) (hm : m <= m') : MapD k m' ks l := ⟨h.len, Nat.le_trans h.cnt hm, h.sort, h.word, h.kid⟩
theorem MapD.put {k m n : Nat} {ks : List ByteArray} {l : List TreeD} {key : ByteArray} {kid : TreeD} (h : MapD k m ks l) (hk : WordOk key) (ht : Drawn k kid) : ∃ K V, putT n (tMap ks l) key kid = tMap K V /\ MapD k (m + 1) K V := by
 unfold putT;by_cases c : putB n (tMap ks l) key kid = true
 ·rw [if_pos c]
  obtain ⟨K, V, h1, h2⟩ := putD_maps (d := tMap ks l) key kid h.sort h.len;refine ⟨K, V, h1, h2.len, Nat.le_trans h2.cnt (Nat.add_le_add_right h.cnt 1), h2.sort, fun x hx => ?_, fun x hx => ?_⟩
  ·rcases h2.mem x hx with rfl | hx
   ·exact hk
   ·exact h.word x hx
  ·rcases h2.memv x hx with rfl | hx
   ·exact ht
   ·exact h.kid x hx
 ·rw [if_neg c]
  exact ⟨ks, l, rfl, h.more (Nat.le_add_right _ _)⟩
theorem Drawn.fits {k : Nat} {d : TreeD} (h : Drawn k d) (hk : k <= 4) : nTree k d <= 1048576 /\ sizeT k d <= 1073741824 /\ (sayL k d).length <= 18266 := by
 have h2 := h.size;have h3 := h.cells;have h4 := h.say;rcases (show k = 0 ∨ k = 1 ∨ k = 2 ∨ k = 3 ∨ k = 4 by omega) with rfl | rfl | rfl | rfl | rfl
 all_goals
  exact ⟨Nat.le_trans h3 (by decide), Nat.le_trans h2 (by decide), Nat.le_trans h4 (by decide)⟩
theorem c_rs_TextTree (t : ByteArray) (w : World) : Calls Tryz.prog 140 #[.string t] w fun e w' => e = .returned (.agg #[.int .i64 4, .bool false, .int .i64 0, .string t, .slice none 0 0, .slice none 0 0]) /\ Below w.heap.size w w' := by
 go_enter Tryz.func140, Tryz.ntmps140
 go_wp2_with fail
 exact bodyPost_ret (v := .agg #[.int .i64 4, .bool false, .int .i64 0, .string t, .slice none 0 0, .slice none 0 0]) (by simp only [results, Tryz.results140]; go_simp) rfl ⟨rfl, bel⟩
theorem c_rs_IntTree (x : Int) (w : World) : Calls Tryz.prog 139 #[.int .i64 x] w fun e w' => e = .returned (.agg #[.int .i64 3, .bool false, .int .i64 x, .string ⟨#[]⟩, .slice none 0 0, .slice none 0 0]) /\ Below w.heap.size w w' := by
 go_enter Tryz.func139, Tryz.ntmps139
 go_wp2_with fail
 exact bodyPost_ret (v := .agg #[.int .i64 3, .bool false, .int .i64 x, .string ⟨#[]⟩, .slice none 0 0, .slice none 0 0]) (by simp only [results, Tryz.results139]; go_simp) rfl ⟨rfl, bel⟩
open Go.RowKit
def T_l08 (n : Nat) : Prop := ∀ (d : TreeD) (cs : List Value) (w : World) (lo : Nat) (_ : C_Tree n lo w.heap.size w d cs) (_ : nTree n d <= 1048576),
  Calls Tryz.prog 69 #[.agg cs.toArray] w fun e w' => ∃ cs', e = .returned (.agg cs'.toArray) /\ OwnT n (fun b => w.heap.size <= b /\ b < w'.heap.size) w' d cs' /\ Below w.heap.size w w'
theorem of_l08 (n : Nat) (ih : T_l08 n) : T_l08 (n + 1) := by
 intro d cs w lo h hn;obtain ⟨i0, hi, hz0, hz1, hz2⟩ := info_parts (show (Tryz.prog.info? 34).map (fun i => (i.zero, i.size, i.bytes)) = some (some (.agg #[.int .i64 0, .bool false, .int .i64 0, .string ⟨#[]⟩, .slice none 0 0, .slice none 0 0]), 6, 88) from by kernel_rfl);obtain ⟨j0, gi, gz0, gz1, gz2⟩ := info_parts (show (Tryz.prog.info? 9).map (fun i => (i.zero, i.size, i.bytes)) = some (some (.string ⟨#[]⟩), 1, 16) from by kernel_rfl)
 obtain ⟨v4, v5, rfl, a0, a2, a3, a4, a5⟩ := h.out;obtain ⟨A4, c4, rfl⟩ := a4.form;obtain ⟨A5, c5, rfl, hlc, hcc, hA⟩ := a5;rw [nTree_succ] at hn;have m4 : d.keys.length <= 1048576 := by have := nL_def ByteArray.size d.keys; omega
 have m5 : d.kids.length <= 1048576 := by have := nL_def (nTree n) d.kids; omega
 go_enter Tryz.func69, Tryz.ntmps69
 go_wp2_with (at_builtin; refine wpList_append_strs rfl _ _ 31 rfl (w.heap.size + 3) 9 j0 (.string ⟨#[]⟩) 16 Tryz.underlying31 gi gz0 gz1 gz2 rfl _ 0 [] rfl (own_empty (by simp) (by simp)) d.keys A4 c4 lo w.heap.size rfl (Sl_Str.keep a4 (by repeat (first | (with_reducible exact Same.refl _ _ _) | ((with_reducible refine same_setCell ?_ ?_); focus (simp; (try omega))) | ((with_reducible refine same_alloc ?_ ?_); focus (simp; (try omega))) | (with_reducible refine same_drewN ?_ _) | ((with_reducible (apply same_step; assumption)); focus (simp; (try omega))))) (Nat.le_refl _) (Nat.le_refl _)) (by omega) (by omega) (by simp) ?_)
 intro v' w1 hown hgrow hat;have hgs : GrowS (w.heap.size + 3) w1.heap.size w1 d.keys v' := ⟨hown, fun g hg => (hown.lt g hg).2, size_strs a4⟩;obtain ⟨B4, b4, rfl⟩ := hgs.form;have hA1 : w1.heap[w.heap.size]? = some (.cells #[.int .i64 d.kind, .bool d.flag, .int .i64 d.num, .string d.text, .slice A4 d.keys.length c4, .slice A5 d.kids.length c5] 34 (0, 0)) := (hgrow.block w.heap.size (by simp; try omega) (by simp [Value.ownBlock]; try omega)).trans ((Below.heap_alloc _ _ _ (by simp; try omega)).trans ((Below.heap_alloc _ _ _ (by simp; try omega)).trans ((Below.heap_alloc _ _ _ (by simp)).trans (heap_alloc_new _ _))))
 have hZ1 : w1.heap[w.heap.size + 1]? = some (.cells #[.int .i64 0, .bool false, .int .i64 0, .string ⟨#[]⟩, .slice none 0 0, .slice none 0 0] 34 (0, 0)) := (hgrow.block (w.heap.size + 1) (by simp; try omega) (by simp [Value.ownBlock]; try omega)).trans ((Below.heap_alloc _ _ _ (by simp; try omega)).trans ((Below.heap_alloc _ _ _ (by simp)).trans (heap_at (by simp))));have hT1 : w1.heap[w.heap.size + 2]? = some (.cells #[.int .i64 d.kind, .bool d.flag, .int .i64 d.num, .string d.text, .slice A4 d.keys.length c4, .slice A5 d.kids.length c5] 34 (0, 0)) := (hgrow.block (w.heap.size + 2) (by simp; try omega) (by simp [Value.ownBlock]; try omega)).trans ((Below.heap_alloc _ _ _ (by simp)).trans (heap_at (by simp)))
 have hs1 : w.heap.size + 4 <= w1.heap.size := by have := hgrow.size; simpa using this
 have hb1 : Below w.heap.size w w1 := Below.grown (bel : Below w.heap.size w _) hgrow (by simp; omega) (fun q hq => by simp [Value.ownBlock] at hq; omega);obtain ⟨t0, t1, t2, t3, t4, t5, tf⟩ := row6 hT1;obtain ⟨y0, y1, y2, y3, y4, y5, yf⟩ := row6 hA1;have HA1 := Lib.hid hA1;have HZ1 := Lib.hid hZ1;have HT1 := Lib.hid hT1;have Hgs := Lib.hid hgs;clear hA1 hZ1 hT1 hgs hgrow hat hown;have hq0 : w.heap.size < w1.heap.size := by omega
 have hq1 : w.heap.size + 1 < w1.heap.size := by omega
 have hq2 : w.heap.size + 2 < w1.heap.size := by omega
 have hq3 : w.heap.size + 1 + 1 < w1.heap.size := by omega
 go_wp2_with fail
 go_loopw [4] (fun i wr => ∃ (k : Nat) (K : Option Addr) (c : Nat), k <= d.kids.length /\ i = .int .i64 k /\ wr.heap[w.heap.size]? = some (.cells #[.int .i64 d.kind, .bool d.flag, .int .i64 d.num, .string d.text, .slice A4 d.keys.length c4, .slice A5 d.kids.length c5] 34 (0, 0)) /\ wr.heap[w.heap.size + 1]? = some (.cells #[.int .i64 0, .bool false, .int .i64 0, .string ⟨#[]⟩, .slice none 0 0, .slice none 0 0] 34 (0, 0)) /\ wr.heap[w.heap.size + 2]? = some (.cells #[.int .i64 d.kind, .bool d.flag, .int .i64 d.num, .string d.text, .slice B4 d.keys.length b4, .slice K k c] 34 (0, 0)) /\
  GrowK n w1.heap.size wr.heap.size wr (d.kids.take k) (.slice K k c) /\ OwnS (fun b => w.heap.size + 3 <= b /\ b < w1.heap.size) wr d.keys (.slice B4 d.keys.length b4) /\ Below w.heap.size w wr /\ w1.heap.size <= wr.heap.size) (fun i _ => d.kids.length - (intOf i).toNat)
 case atStart =>
  refine ⟨0, some ⟨w1.heap.size, 0, none⟩, 0, Nat.zero_le _, rfl, ?_, ?_, ?_, GrowK.empty (by simp) (by simp), Hgs.out.own.carry (fun b hb => (Below.heap_alloc _ _ b (by simp; omega)).trans ((Below.heap_setCell _ _ _ b (by simp; omega)).trans (Below.heap_setCell _ _ _ b (by simp; omega)))) (fun _ h => h), bel, by simp⟩
  ·exact (Below.heap_alloc _ _ _ (by simp; omega)).trans ((Below.heap_setCell _ _ _ _ (by simp; try omega)).trans ((Below.heap_setCell _ _ _ _ (by simp; try omega)).trans HA1.out))
  ·exact (Below.heap_alloc _ _ _ (by simp; omega)).trans ((Below.heap_setCell _ _ _ _ (by simp; try omega)).trans ((Below.heap_setCell _ _ _ _ (by simp; try omega)).trans HZ1.out))
  ·exact (Below.heap_alloc _ _ _ (by simp; omega)).trans (heap_setCell_same _ (w.heap.size + 2) 5 _ _ _ (heap_setCell_same _ (w.heap.size + 2) 4 _ _ _ HT1.out))
 case round =>
  clear t0 t1 t2 t3 t4 t5 tf y0 y1 y2 y3 y4 y5 yf;obtain ⟨k, K, c, hk, rfl, hA1, hZ1, hT1, hgk, hks, hbr, hwr⟩ := hrel;obtain ⟨t0, t1, t2, t3, t4, t5, tf⟩ := row6 hT1;obtain ⟨y0, y1, y2, y3, y4, y5, yf⟩ := row6 hA1;have tl := row_lt hT1;have yl := row_lt hA1;have RA := Lib.hid hA1;have RZ := Lib.hid hZ1;have RT := Lib.hid hT1;have Hks := Lib.hid hks;have Hgk := Lib.hid hgk;have hbs := hbr.size;clear hA1 hZ1 hT1 hks hgk
  by_cases hlt : k < d.kids.length
  ·obtain ⟨b, o, rfl, -, hb2, hcell⟩ := hA (by omega)
   obtain ⟨f, hf⟩ := exists_at hlt;obtain ⟨es, -, hcs, hC⟩ := hcell k f hf;have hC' := hC;obtain ⟨eA4, ec4, eA5, ec5, rfl, ea0, ea2, ea3⟩ := hC'.flat;have hc0 := (hbr.cell (p := ⟨b, o + k * 6 + 0, none⟩) (by simp; omega)).trans (hcs 0 (by omega));have hc1 := (hbr.cell (p := ⟨b, o + k * 6 + 1, none⟩) (by simp; omega)).trans (hcs 1 (by omega));have hc2 := (hbr.cell (p := ⟨b, o + k * 6 + 2, none⟩) (by simp; omega)).trans (hcs 2 (by omega))
   have hc3 := (hbr.cell (p := ⟨b, o + k * 6 + 3, none⟩) (by simp; omega)).trans (hcs 3 (by omega));have hc4 := (hbr.cell (p := ⟨b, o + k * 6 + 4, none⟩) (by simp; omega)).trans (hcs 4 (by omega));have hc5 := (hbr.cell (p := ⟨b, o + k * 6 + 5, none⟩) (by simp; omega)).trans (hcs 5 (by omega));simp at hc0 hc1 hc2 hc3 hc4 hc5;have hbl : b < wr.heap.size := Nat.lt_of_lt_of_le hb2 hbr.size;have hnd : nTree n f <= 1048576 := by have := nL_def (nTree n) d.kids; have := szL_take_succ (nTree n) d.kids k f hf; have := szL_take_le (nTree n) d.kids (k+1); omega
   have Htk := Lib.hid (show d.kids.take (k + 1) = d.kids.take k ++ [f] by rw [List.take_add_one, hf]; rfl);have Hlen := Lib.hid (show (d.kids.take k).length = k by rw [List.length_take]; omega);have hk0 : (0 : Int) <= k := by omega
   have hk1 : (k : Int) < d.kids.length := by omega
   obtain ⟨ess, F, e1, e2, e3, e4, e5, e6, e7⟩ := Hgk.out;obtain ⟨r, hr⟩ : ∃ r, r = (Value.slice K k c).ownBlock := ⟨_, rfl⟩
   have hrl : ∀ q, r = some q -> w1.heap.size <= q := fun q hq => (e3.lt q (by rw [<- hr]; exact hq)).1
   have hn0 : r ≠ some w.heap.size := fun h => by have := hrl _ h; omega
   have hn1 : r ≠ some (w.heap.size + 1) := fun h => by have := hrl _ h; omega
   have hn2 : r ≠ some (w.heap.size + 1 + 1) := fun h => by have := hrl _ h; omega
   have hnb : r ≠ some b := fun h => by have := hrl _ h; omega
   have Hrl := Lib.hid hrl;have Hr := Lib.hid hr;have E := Lib.hid (And.intro e1 (And.intro e2 (And.intro e3 (And.intro e4 (And.intro e5 (And.intro e6 e7))))));clear hcs hcell hA hf hrl hr e1 e2 e3 e4 e5 e6 e7;go_wp2_with fail
   go_region_law (first | (go_simp; go_at_call 69; refine (ih f _ _ lo (hC.now bel) hnd).mono ?_; rintro e w9 ⟨cs9, rfl, ho9, hb9⟩; obtain ⟨fA4, fc4, fA5, fc5, rfl, fa0, fa2, fa3⟩ := ho9.flat; obtain ⟨-, -, -, -, -, p5, -⟩ := row6 ((hb9.block (w.heap.size + 1 + 1) tl).trans RT.out); have p9 : w.heap.size + 1 + 1 < w9.heap.size := Nat.lt_of_lt_of_le tl hb9.size) | (refine step_append_lies _ rfl _ _ 32 rfl w1.heap.size 34 i0 (.agg #[.int .i64 0, .bool false, .int .i64 0, .string ⟨#[]⟩, .slice none 0 0, .slice none 0 0]) 6 88 Tryz.underlying32 hi hz0 hz1 hz2 rfl (by decide) _ k ess.flatten rfl (own9 E.out.2.2.1 hb9 rfl Hlen.out) ⟨w9.heap.size, 0, none⟩ 1 1 [.int .i64 f.kind, .bool f.flag, .int .i64 f.num, .string f.text, .slice fA4 f.keys.length fc4, .slice fA5 f.kids.length fc5] rfl rfl (World.news_of_block (heap_alloc_new w9 _)) ho9.one (by decide) (by unfold maxLen; omega) (by omega) (by have := hb9.size; simp at this ⊢; omega) _ rfl ?_; intro g cap w2 hown2 hgrow2 hat2 hlt2; have hgrow3 := grown_at Hr.out hgrow2; obtain ⟨-, -, -, -, -, q5, qf⟩ := row6 (row9 RT.out hb9 rfl hgrow2 Hr.out hn2)))
   all_goals
    have hs9 : wr.heap.size <= w9.heap.size := hb9.size;have hB9 : Below w.heap.size w w9 := bel;have hB2 := Below.grown (hB9.alloc (by omega) (.cells #[.int .i64 f.kind, .bool f.flag, .int .i64 f.num, .string f.text, .slice fA4 f.keys.length fc4, .slice fA5 f.kids.length fc5] 34)) hgrow2 (by simp; omega) (fun q hq => by have := Hrl.out q (Hr.out.trans hq); omega)
    have hP := GrowK.push (n := n) (base := w1.heap.size) (hi := wr.heap.size) (w := w9.alloc (.cells #[.int .i64 f.kind, .bool f.flag, .int .i64 f.num, .string f.text, .slice fA4 f.keys.length fc4, .slice fA5 f.kids.length fc5] 34)) (S := fun b => wr.heap.size <= b /\ b < w9.heap.size) k Hlen.out (by simp; omega) (ho9.carry (fun b hb => Below.heap_alloc _ _ b hb.2) (fun b hb => hb)) (fun b hb => by simp; omega) hwr ess F E.out.1 E.out.2.1 E.out.2.2.2.1 E.out.2.2.2.2.1 E.out.2.2.2.2.2.1
     (fun i d' es' h1 h2 => (E.out.2.2.2.2.2.2 i d' es' h1 h2).carry (fun b hb => old9 (E.out.2.2.2.2.1 i b hb).2.1 hb9 rfl) (fun _ h => h)) hown2 hgrow2 (hat2.imp id (fun h => by rw [h]; simp)) hlt2
    have RA2 := row9 RA.out hb9 rfl hgrow2 Hr.out hn0;have RZ2 := row9 RZ.out hb9 rfl hgrow2 Hr.out hn1;have RT2 := row9 RT.out hb9 rfl hgrow2 Hr.out hn2;have KS2 := Hks.out.carry (w' := w2) (fun b hb => blk9 (by omega) hb9 rfl hgrow2 Hr.out (fun h => by have := Hrl.out b h; omega)) (fun _ h => h);have hs2 := hgrow2.size;simp at hs2;clear hgrow2 hgrow3 hown2 hat2;go_wp2_with fail
    go_roundw
    case rel =>
     refine ⟨k + 1, some ⟨g, 0, none⟩, cap, by omega, by go_num, (Below.heap_setCell _ _ _ _ (by simp; try omega)).trans RA2, (Below.heap_setCell _ _ _ _ (by simp; try omega)).trans RZ2, heap_setCell_same w2 (w.heap.size + 1 + 1) 5 _ _ _ RT2, ?_, KS2.carry (fun b hb => Below.heap_setCell _ _ _ b (by simp; omega)) (fun _ h => h), Below.setCell hB2 (by simp; omega) _, by simp; omega⟩;rw [Htk.out]
     exact hP.carry (by simp) (fun q h1 _ => Below.heap_setCell _ _ _ q (by simp; omega))
    case measure => simp [intOf]; omega
  ·obtain rfl : k = d.kids.length := by omega
   have hgk := Hgk.out;rw [List.take_length] at hgk;have Hg2 := Lib.hid hgk;obtain ⟨z0, z1, z2, z3, z4, z5, zf⟩ := row6 RZ.out;have zl : w.heap.size + 1 < wr.heap.size := row_lt RZ.out;clear hA hgk;go_wp2_with fail
   refine bodyPost_ret (v := .agg #[.int .i64 d.kind, .bool d.flag, .int .i64 d.num, .string d.text, .slice B4 d.keys.length b4, .slice K d.kids.length c]) (by simp only [results, Tryz.results69]; go_simp) rfl ⟨[.int .i64 d.kind, .bool d.flag, .int .i64 d.num, .string d.text, .slice B4 d.keys.length b4, .slice K d.kids.length c], rfl, OwnT.into ⟨_, _, fun b => w.heap.size + 3 <= b /\ b < w1.heap.size, fun b => w1.heap.size <= b /\ b < wr.heap.size, rfl, a0, a2, a3, ?_, ?_, Hks.out.carry ?_ (fun _ h => h), Hg2.out.own.keep ?_ (fun _ h => h)⟩, bel⟩
   ·intro b hb; simp; omega
   ·intro b hb; simp; omega
   rotate_left
   rotate_left
   all_goals
    intro b hb;exact Aside.block (S := fun b => b = w.heap.size + 1) (w := wr) asd b (by omega) (by omega)
theorem all_l08 : ∀ n, T_l08 n
 | 0 => fun _ _ _ _ h _ => (C_Tree.none h).elim
 | n + 1 => of_l08 n (all_l08 n)
def eqTr : Nat -> TreeD -> TreeD -> Bool
 | 0, _, _ => false
 | n + 1, a, b => (a.kind == b.kind) && (a.flag == b.flag) && (a.num == b.num) && (a.text.toList == b.text.toList) && eqL eqStr a.keys b.keys && eqL (eqTr n) a.kids b.kids
theorem eqTr_succ (n : Nat) (a b : TreeD) : eqTr (n + 1) a b = ((a.kind == b.kind) && (a.flag == b.flag) && (a.num == b.num) && (a.text.toList == b.text.toList) && eqL eqStr a.keys b.keys && eqL (eqTr n) a.kids b.kids) := rfl
def T_sameS (n : Nat) : Prop := ∀ (a b : TreeD) (ca cb : List Value) (w : World) (lo lo' : Nat), C_Tree n lo w.heap.size w a ca -> C_Tree n lo' w.heap.size w b cb ->
  Calls Tryz.prog 20 #[.agg ca.toArray, .agg cb.toArray] w fun e w' => e = .returned (.bool (eqTr n a b)) /\ Below w.heap.size w w'
theorem ne_of {α : Type} [BEq α] {x y : α} {q : Bool} (h : (x == y) = q) : (x != y) = !q := by unfold bne; rw [h]
theorem of_sameS (n : Nat) (ih : T_sameS n) : T_sameS (n + 1) := by
 intro a b ca cb w lo lo' h h';obtain ⟨v4, v5, rfl, a0, a2, a3, a4, a5⟩ := C_Tree.out h;obtain ⟨zv4, zv5, rfl, za0, za2, za3, za4, za5⟩ := C_Tree.out h';obtain ⟨A4, c4, rfl, hlc, hcc, hA⟩ := a4;obtain ⟨A5, c5, rfl, hlc5, hcc5, hA5⟩ := a5;obtain ⟨zA4, zc4, rfl, zlc, zcc, hB⟩ := za4;obtain ⟨zA5, zc5, rfl, zlc5, zcc5, hB5⟩ := za5;have Hf := Lib.hid (eqTr_succ n a b);clear h h';rcases q1 : (a.kind == b.kind) with _ | _
 ·rw [q1] at Hf; simp only [Bool.false_and] at Hf
  have n1 := ne_of q1;simp only [Bool.not_false] at n1;go_enter Tryz.func20, Tryz.ntmps20
  go_wp2_with fail
  go_ret
  exact ⟨ret_bool Hf.out.symm, bel⟩
 have n1 := ne_of q1;simp only [Bool.not_true] at n1;rcases q2 : (a.flag == b.flag) with _ | _
 ·rw [q1, q2] at Hf; simp only [Bool.false_and, Bool.and_false] at Hf
  have n2 := ne_of q2;simp only [Bool.not_false] at n2;go_enter Tryz.func20, Tryz.ntmps20
  go_wp2_with fail
  go_ret
  exact ⟨ret_bool Hf.out.symm, bel⟩
 have n2 := ne_of q2;simp only [Bool.not_true] at n2;rcases q3 : (a.num == b.num) with _ | _
 ·rw [q1, q2, q3] at Hf; simp only [Bool.false_and, Bool.and_false] at Hf
  have n3 := ne_of q3;simp only [Bool.not_false] at n3;go_enter Tryz.func20, Tryz.ntmps20
  go_wp2_with fail
  go_ret
  exact ⟨ret_bool Hf.out.symm, bel⟩
 have n3 := ne_of q3;simp only [Bool.not_true] at n3;rcases q4 : (a.text.toList == b.text.toList) with _ | _
 ·rw [q1, q2, q3, q4] at Hf; simp only [Bool.false_and, Bool.and_false] at Hf
  have n4 := ne_of q4;simp only [Bool.not_false] at n4;go_enter Tryz.func20, Tryz.ntmps20
  go_wp2_with fail
  go_ret
  exact ⟨ret_bool Hf.out.symm, bel⟩
 have n4 := ne_of q4;simp only [Bool.not_true] at n4;by_cases hk : a.keys.length = b.keys.length
 rotate_left
 ·have Hx := Lib.hid (eqL_len eqStr a.keys b.keys hk)
  have lk : ((a.keys.length : Int) != b.keys.length) = true := bne_iff_ne.2 (by omega);have He := Lib.hid (show eqTr (n + 1) a b = false by rw [eqTr_succ, Hx.out]; simp only [Bool.and_false, Bool.false_and]);clear Hf hk;go_enter Tryz.func20, Tryz.ntmps20
  go_wp2_with fail
  go_ret
  exact ⟨ret_bool He.out.symm, bel⟩
 have lk : ((a.keys.length : Int) != b.keys.length) = false := bne_eq_false_iff_eq.2 (by omega);have Lk := Lib.hid hk;clear hk;by_cases hd : a.kids.length = b.kids.length
 rotate_left
 ·have Hx := Lib.hid (eqL_len (eqTr n) a.kids b.kids hd)
  have ld : ((a.kids.length : Int) != b.kids.length) = true := bne_iff_ne.2 (by omega);have He := Lib.hid (show eqTr (n + 1) a b = false by rw [eqTr_succ, Hx.out]; simp only [Bool.and_false]);clear Hf hd;go_enter Tryz.func20, Tryz.ntmps20
  go_wp2_with fail
  go_ret
  exact ⟨ret_bool He.out.symm, bel⟩
 have ld : ((a.kids.length : Int) != b.kids.length) = false := bne_eq_false_iff_eq.2 (by omega);have Ld := Lib.hid hd;clear hd;rw [q1, q2, q3, q4] at Hf;simp only [Bool.true_and] at Hf;go_enter Tryz.func20, Tryz.ntmps20
 go_wp2_with fail
 go_loopw [5] (fun v wr => ∃ k : Nat, k <= a.keys.length /\ v = .int .i64 k /\ allR k (eqAt eqStr a.keys b.keys) = true /\ wr.heap[w.heap.size]? = some (.cells #[.int .i64 a.kind, .bool a.flag, .int .i64 a.num, .string a.text, .slice A4 a.keys.length c4, .slice A5 a.kids.length c5] 34 (0, 0)) /\ wr.heap[w.heap.size + 1]? = some (.cells #[.int .i64 b.kind, .bool b.flag, .int .i64 b.num, .string b.text, .slice zA4 b.keys.length zc4, .slice zA5 b.kids.length zc5] 34 (0, 0)) /\ Below w.heap.size w wr) (fun v _ => a.keys.length - (intOf v).toNat)
 case atStart => exact ⟨0, Nat.zero_le _, rfl, rfl, (Below.heap_alloc _ _ _ (by simp)).trans (heap_at rfl), heap_at (by simp), bel⟩
 case round =>
  obtain ⟨k, hk, rfl, hall, hT, hK, hbr⟩ := hrel;have Hall := Lib.hid hall;have HT := Lib.hid hT;have HK := Lib.hid hK;clear hall hT hK;obtain ⟨x0, x1, x2, x3, x4, x5, xf⟩ := row6 HT.out;obtain ⟨y0, y1, y2, y3, y4, y5, yf⟩ := row6 HK.out;have hl1 := row_lt HT.out;have hl2 := row_lt HK.out;by_cases hlt : k < a.keys.length
  ·obtain ⟨p, o, rfl, -, hbl, hcell⟩ := hA (by omega)
   obtain ⟨p', o', rfl, -, hbl', hcell'⟩ := hB (by have := Lk.out; omega);obtain ⟨d, hd⟩ := exists_at hlt;obtain ⟨d', hd'⟩ := exists_at (show k < b.keys.length by have := Lk.out; omega);obtain ⟨es, -, hcs, rfl, hz1⟩ := hcell k d hd;obtain ⟨es', -, hcs', rfl, hz2⟩ := hcell' k d' hd';have hc0 := (hbr.cell (p := ⟨p, o + k * 1 + 0, none⟩) hbl).trans (hcs 0 (by omega));have hd0 := (hbr.cell (p := ⟨p', o' + k * 1 + 0, none⟩) hbl').trans (hcs' 0 (by omega))
   simp at hc0 hd0;have hbr1 := Nat.lt_of_lt_of_le hbl hbr.size;have hbr2 := Nat.lt_of_lt_of_le hbl' hbr.size;have hbs := hbr.size;have hk0 : (0 : Int) <= k := by omega
   have hk1 : (k : Int) < a.keys.length := by omega
   have hk2 : (k : Int) < b.keys.length := by have := Lk.out; omega
   have He := Lib.hid (eqAt_eq eqStr a.keys b.keys k d d' hd hd');clear hcs hcell hA hcs' hcell' hB hd hd' hA5 hB5;rcases q0 : (d.toList == d'.toList) with _ | _
   ·have Hbad := Lib.hid (show eqAt eqStr a.keys b.keys k = false by rw [He.out]; exact q0)
    have m1 := ne_of q0;simp only [Bool.not_false] at m1;go_wp2_with fail
    refine wp_region_det 11 (by kernel_rfl) (by kernel_rfl) (by decide) ?_;refine ds ?_;refine ds ?_
    iterate 2 refine ds ?_
    refine ds ?_;refine ds ?_;refine ds ?_
    iterate 2 refine ds ?_
    refine ds ?_;refine ds ?_;intro w1 hb
    (first | (have hcu2 := Cum.join hcu hb; (try clear hcu); (try clear hc); (try clear hfz); (try clear hsz); (try clear hs0); (try clear hs1); (try clear hs2); (try clear hs3); (try clear hs4); ) | have hcu2 := Cum.mk hb); have hcu := hcu2; clear hcu2; obtain ⟨hc, hfz⟩ := bcell hcu.h; have hsz := hcu.h.size; (try simp at hsz); (try have hs0 := lt_of_succ_le hsz); (try (have hs1 := lt_pred hsz; (try (have hs2 := lt_pred hs1; (try (have hs3 := lt_pred hs2; (try have hs4 := lt_pred hs3)))))))
    (try simp only [Act.put, List.setIfInBounds_toArray, List.set_cons_zero, List.set_cons_succ])
    (try simp only [List.drop_succ_cons, List.drop_nil])
    have Hx := Lib.hid (show eqTr (n + 1) a b = false by rw [Hf.out, eqL_bad eqStr a.keys b.keys k hlt Hbad.out]; rfl);go_wp2_with fail
    go_ret
    exact ⟨ret_bool Hx.out.symm, bel⟩
   ·have Hn := Lib.hid (show allR (k + 1) (eqAt eqStr a.keys b.keys) = true by rw [allR_succ, Hall.out, He.out]; exact q0)
    have m1 := ne_of q0;simp only [Bool.not_true] at m1;go_wp2_with fail
    refine wp_region_det 11 (by kernel_rfl) (by kernel_rfl) (by decide) ?_;refine ds ?_;refine ds ?_
    iterate 2 refine ds ?_
    refine ds ?_;refine ds ?_;refine ds ?_
    iterate 2 refine ds ?_
    refine ds ?_;refine ds ?_;intro wq hbwq
    (try simp only [Act.put, List.setIfInBounds_toArray, List.set_cons_zero, List.set_cons_succ])
    (try simp only [List.drop_succ_cons, List.drop_nil])
    have HTq := Lib.hid ((hbwq.block _ hl1).trans HT.out);have HKq := Lib.hid ((hbwq.block _ hl2).trans HK.out);have HBq := Lib.hid (hbr.trans (hbwq.mono hbr.size));clear x0 x1 x2 x3 x4 x5 xf y0 y1 y2 y3 y4 y5 yf;go_wp2_with fail
    go_roundw
    case rel => exact ⟨k + 1, by omega, by go_num, Hn.out, HTq.out, HKq.out, HBq.out⟩
    case measure => simp [intOf]; omega
  ·obtain rfl : k = a.keys.length := by omega
   have HKs := Lib.hid (eqL_all eqStr a.keys b.keys Lk.out Hall.out);have hke : decide (a.keys.length < a.keys.length) = false := decide_eq_false (Nat.lt_irrefl _);clear hA hB Hall;rw [HKs.out] at Hf;simp only [Bool.true_and] at Hf;go_wp2_with fail
   go_loopw [6] (fun v wr => ∃ k : Nat, k <= a.kids.length /\ v = .int .i64 k /\ allR k (eqAt (eqTr n) a.kids b.kids) = true /\ wr.heap[w.heap.size]? = some (.cells #[.int .i64 a.kind, .bool a.flag, .int .i64 a.num, .string a.text, .slice A4 a.keys.length c4, .slice A5 a.kids.length c5] 34 (0, 0)) /\ wr.heap[w.heap.size + 1]? = some (.cells #[.int .i64 b.kind, .bool b.flag, .int .i64 b.num, .string b.text, .slice zA4 b.keys.length zc4, .slice zA5 b.kids.length zc5] 34 (0, 0)) /\ Below w.heap.size w wr) (fun v _ => a.kids.length - (intOf v).toNat)
   case atStart => exact ⟨0, Nat.zero_le _, rfl, rfl, HT.out, HK.out, hbr⟩
   case round =>
    have hb0 := hbr;clear hbr hl1 hl2 HT HK x0 x1 x2 x3 x4 x5 xf y0 y1 y2 y3 y4 y5 yf;obtain ⟨k, hk, rfl, hall, hT, hK, hbr⟩ := hrel;have Hall := Lib.hid hall;have HT := Lib.hid hT;have HK := Lib.hid hK;clear hall hT hK hb0;obtain ⟨x0, x1, x2, x3, x4, x5, xf⟩ := row6 HT.out;obtain ⟨y0, y1, y2, y3, y4, y5, yf⟩ := row6 HK.out;have hl1 := row_lt HT.out;have hl2 := row_lt HK.out;by_cases hlt : k < a.kids.length
    ·obtain ⟨p, o, rfl, -, hbl, hcell⟩ := hA5 (by omega)
     obtain ⟨p', o', rfl, -, hbl', hcell'⟩ := hB5 (by have := Ld.out; omega);obtain ⟨d, hd⟩ := exists_at hlt;obtain ⟨d', hd'⟩ := exists_at (show k < b.kids.length by have := Ld.out; omega);obtain ⟨es, -, hcs, hC⟩ := hcell k d hd;obtain ⟨es', -, hcs', hD⟩ := hcell' k d' hd';obtain ⟨eA4, ec4, eA5, ec5, rfl, ea0, ea2, ea3⟩ := hC.flat;obtain ⟨fA4, fc4, fA5, fc5, rfl, fa0, fa2, fa3⟩ := hD.flat;have hc0 := (hbr.cell (p := ⟨p, o + k * 6 + 0, none⟩) (by simp; omega)).trans (hcs 0 (by omega))
     simp at hc0;have hc1 := (hbr.cell (p := ⟨p, o + k * 6 + 1, none⟩) (by simp; omega)).trans (hcs 1 (by omega));simp at hc1;have hc2 := (hbr.cell (p := ⟨p, o + k * 6 + 2, none⟩) (by simp; omega)).trans (hcs 2 (by omega));simp at hc2;have hc3 := (hbr.cell (p := ⟨p, o + k * 6 + 3, none⟩) (by simp; omega)).trans (hcs 3 (by omega));simp at hc3;have hc4 := (hbr.cell (p := ⟨p, o + k * 6 + 4, none⟩) (by simp; omega)).trans (hcs 4 (by omega))
     simp at hc4;have hc5 := (hbr.cell (p := ⟨p, o + k * 6 + 5, none⟩) (by simp; omega)).trans (hcs 5 (by omega));simp at hc5;have hd0 := (hbr.cell (p := ⟨p', o' + k * 6 + 0, none⟩) (by simp; omega)).trans (hcs' 0 (by omega));simp at hd0;have hd1 := (hbr.cell (p := ⟨p', o' + k * 6 + 1, none⟩) (by simp; omega)).trans (hcs' 1 (by omega));simp at hd1;have hd2 := (hbr.cell (p := ⟨p', o' + k * 6 + 2, none⟩) (by simp; omega)).trans (hcs' 2 (by omega))
     simp at hd2;have hd3 := (hbr.cell (p := ⟨p', o' + k * 6 + 3, none⟩) (by simp; omega)).trans (hcs' 3 (by omega));simp at hd3;have hd4 := (hbr.cell (p := ⟨p', o' + k * 6 + 4, none⟩) (by simp; omega)).trans (hcs' 4 (by omega));simp at hd4;have hd5 := (hbr.cell (p := ⟨p', o' + k * 6 + 5, none⟩) (by simp; omega)).trans (hcs' 5 (by omega));simp at hd5;have hbr1 := Nat.lt_of_lt_of_le hbl hbr.size
     have hbr2 := Nat.lt_of_lt_of_le hbl' hbr.size;have hbs := hbr.size;have hk0 : (0 : Int) <= k := by omega
     have hk1 : (k : Int) < a.kids.length := by omega
     have hk2 : (k : Int) < b.kids.length := by have := Ld.out; omega
     have He := Lib.hid (eqAt_eq (eqTr n) a.kids b.kids k d d' hd hd');have HC := Lib.hid hC;have HD := Lib.hid hD;clear hcs hcell hA5 hcs' hcell' hB5 hd hd' hC hD;rcases q0 : eqTr n d d' with _ | _
     ·have Hbad := Lib.hid (show eqAt (eqTr n) a.kids b.kids k = false by rw [He.out, q0])
      have Hx := Lib.hid (show eqTr (n + 1) a b = false by rw [Hf.out]; exact eqL_bad (eqTr n) a.kids b.kids k hlt Hbad.out);go_wp2_with fail
      go_region_held3 (fun w' => Below (wr).heap.size (wr) w' /\ (∀ xb xo, xb < (wr).heap.size -> w'.cell? ⟨xb, xo, none⟩ = (wr).cell? ⟨xb, xo, none⟩)) (first | exact keep_drew _ | exact keep_ext (by assumption) (by assumption) | exact keep_same (by assumption) | exact keep_alloc (by assumption) _) (first | (go_at_call 20; refine (ih d d' _ _ _ _ _ (HC.out.now (ext_trans hbr (by first | (with_reducible exact Below.refl _ _) | exact (keep_same (by assumption)).1))) (HD.out.now (ext_trans hbr (by first | (with_reducible exact Below.refl _ _) | exact (keep_same (by assumption)).1)))).mono ?_; rintro e w9 ⟨rfl, hb9⟩))
      (have hb := held_step (by assumption); (first | (have hcu2 := Cum.join hcu hb; (try clear hcu); (try clear hc); (try clear hfz); (try clear hsz); (try clear hs0); (try clear hs1); (try clear hs2); (try clear hs3); (try clear hs4); ) | have hcu2 := Cum.mk hb); have hcu := hcu2; clear hcu2; obtain ⟨hc, hfz⟩ := bcell hcu.h; have hsz := hcu.h.size; (try simp at hsz); (try have hs0 := lt_of_succ_le hsz); (try (have hs1 := lt_pred hsz; (try (have hs2 := lt_pred hs1; (try (have hs3 := lt_pred hs2; (try have hs4 := lt_pred hs3))))))))
      go_wp2_with fail
      go_ret
      exact ⟨ret_bool Hx.out.symm, bel⟩
     ·have Hn := Lib.hid (show allR (k + 1) (eqAt (eqTr n) a.kids b.kids) = true by rw [allR_succ, Hall.out, He.out, q0]; rfl)
      go_upto_region 11 with fail
      go_cut [87] from 76 to 87 (fun s87 wx => s87 = .bool false /\ Below wr.heap.size wr wx)
      case first =>
       go_region_held3 (fun w' => Below (wr).heap.size (wr) w' /\ (∀ xb xo, xb < (wr).heap.size -> w'.cell? ⟨xb, xo, none⟩ = (wr).cell? ⟨xb, xo, none⟩)) (first | exact keep_drew _ | exact keep_ext (by assumption) (by assumption) | exact keep_same (by assumption) | exact keep_alloc (by assumption) _) (first | (go_at_call 20; refine (ih d d' _ _ _ _ _ (HC.out.now (ext_trans hbr (by first | (with_reducible exact Below.refl _ _) | exact (keep_same (by assumption)).1))) (HD.out.now (ext_trans hbr (by first | (with_reducible exact Below.refl _ _) | exact (keep_same (by assumption)).1)))).mono ?_; rintro e w9 ⟨rfl, hb9⟩))
       have hb := held_step (by assumption);go_wp2_with fail
       go_meet
       exact ⟨by simp, hb⟩
      case rest =>
       obtain ⟨rfl, hbq⟩ := hcut;have HTq := Lib.hid ((hbq.block _ hl1).trans HT.out);have HKq := Lib.hid ((hbq.block _ hl2).trans HK.out);have HBq := Lib.hid (hbr.trans (hbq.mono hbr.size));go_wp2_with fail
       go_roundw
       case rel => exact ⟨k + 1, by omega, by go_num, Hn.out, HTq.out, HKq.out, HBq.out⟩
       case measure => simp [intOf]; omega
    ·obtain rfl : k = a.kids.length := by omega
     have Hx := Lib.hid (show eqTr (n + 1) a b = true by rw [Hf.out]; exact eqL_all (eqTr n) a.kids b.kids Ld.out Hall.out);clear hA5 hB5;go_wp2_with fail
     go_ret
     exact ⟨ret_bool Hx.out.symm, bel⟩
theorem all_sameS : ∀ n, T_sameS n
 | 0 => fun _ _ _ _ _ _ _ h _ => (C_Tree.none h).elim
 | n + 1 => of_sameS n (all_sameS n)
theorem eqL_refl {D : Type} {eq : D -> D -> Bool} {l : List D} (he : ∀ a ∈ l, eq a a = true) : eqL eq l l = true := by
 refine eqL_all eq l l rfl ?_;unfold allR;refine List.all_eq_true.2 (fun i hi => ?_);have g1 := List.mem_range.1 hi;rw [eqAt_eq eq l l i l[i] l[i] (List.getElem?_eq_getElem g1) (List.getElem?_eq_getElem g1)];exact he _ (List.getElem_mem g1)
theorem eqTr_refl : ∀ (n : Nat) (a : TreeD), shapeT n a = true -> eqTr n a a = true
 | 0, _, h => by cases h
 | n + 1, a, h => by
  rw [eqTr_succ, eqL_refl (eq := eqStr) (fun x _ => beq_self_eq_true _), eqL_refl (eq := eqTr n) (fun x hx => by
   obtain ⟨i, hi⟩ := List.getElem?_of_mem hx
   exact eqTr_refl n x (shape_kid h hi))]
  simp
theorem szL_same {D : Type} {f g : D -> Nat} : ∀ {l : List D}, (∀ t ∈ l, f t = g t) -> szL f l = szL g l
 | [], _ => rfl
 | x :: l, h => by
  simp only [szL];rw [h x (by simp), szL_same (fun t ht => h t (by simp [ht]))]
theorem mxL_same {D : Type} {f g : D -> Nat} : ∀ {l : List D}, (∀ t ∈ l, f t = g t) -> mxL f l = mxL g l
 | [], _ => rfl
 | x :: l, h => by
  simp only [mxL];rw [h x (by simp), mxL_same (fun t ht => h t (by simp [ht]))]
theorem items_same {pre : Nat -> List UInt8} {f g : TreeD -> List UInt8} {l : List TreeD} (h : ∀ t ∈ l, f t = g t) : ∀ k, itemsT pre f l k = itemsT pre g l k
 | 0 => rfl
 | k + 1 => by
  unfold itemsT;rw [items_same h k];rcases ht : l[k]? with _ | t
  ·rfl
  ·simp only
   rw [h t (List.mem_of_getElem? ht)]
structure Up (n m : Nat) (d : TreeD) : Prop where
 shape : shapeT m d = true
 say : sayL m d = sayL n d
 size : sizeT m d = sizeT n d
 deep : depthT m d = depthT n d
 num : numT n d -> numT m d
theorem fuel_up : ∀ (n m : Nat) (d : TreeD), n <= m -> shapeT n d = true -> Up n m d
 | 0, _, _, _, h => by cases h
 | n + 1, 0, _, hm, _ => absurd hm (by omega)
 | n + 1, m + 1, d, hm, h => by
  obtain ⟨h1, h2, h3, h4, h5⟩ := shape_parts h
  have hk : ∀ t ∈ d.kids, Up n m t := fun t ht => by
   obtain ⟨i, hi⟩ := List.getElem?_of_mem ht;exact fuel_up n m t (by omega) (shape_kid h hi)
  refine ⟨shape_mk h1 h2 h3 h4 (fun t ht => (hk t ht).shape), ?_, ?_, ?_, fun hn => ⟨hn.1, fun t ht => (hk t ht).num (hn.2 t ht)⟩⟩
  ·rw [sayL_succ, sayL_succ, items_same (fun t ht => (hk t ht).say), items_same (fun t ht => (hk t ht).say)]
  ·rw [sizeT_succ, sizeT_succ, szL_same (fun t ht => (hk t ht).size)]
  ·rw [depthT_succ, depthT_succ, mxL_same (fun t ht => (hk t ht).deep)]
structure Ten (d : TreeD) : Prop where
 ok : okT 10 d = true
 num : numT 10 d
 say : (sayL 10 d).length <= 18266
 shape : shapeT 10 d = true
 size : sizeT 10 d <= 300
theorem Drawn.ten {d : TreeD} (h : Drawn 4 d) : Ten d := by
 have u := fuel_up 4 10 d (by decide) h.shape;have h1 := h.ok (Nat.le_refl _);have h2 := (h.fits (Nat.le_refl _)).2.2;obtain ⟨h3, -⟩ := okT_parts h1;have h4 := okT_deep h1;refine ⟨?_, u.num h.num, by rw [u.say]; exact h2, u.shape, by rw [u.size]; exact h3⟩;rw [okT_def, u.shape, decide_eq_true (by rw [u.deep]; exact h4), decide_eq_true (by rw [u.size]; exact h3)];rfl
def txt (d : TreeD) : ByteArray := ⟨(sayL 10 d).toArray⟩
theorem txt_size (d : TreeD) : (txt d).size = (sayL 10 d).length := size_list _
theorem Ten.braced {d : TreeD} (h : Ten d) : bracedB 10 d = txt d := by
 have := h.say;unfold bracedB;rw [if_pos h.ok, if_neg (by omega)];rfl
theorem Ten.read {d : TreeD} (h : Ten d) : readB (txt d) = (flt0, d) := readB_back h.ok h.num (by have := h.say; omega)
theorem MapG.pushK {nT base hi : Nat} {w w' : World} {ks : List ByteArray} {l : List TreeD} {vk vl : Value} {ess : List (List Value)} {F : Nat -> Nat -> Prop} {key : ByteArray} {g cap n : Nat} (h : MapG nT base hi w ks l vk vl ess F) (hhi : hi <= w.heap.size) (hn : ks.length = n) (hkey : key.size <= 9223372036854775807)
  (ho : w'.ownsRow base 9 1 (.slice (some ⟨g, 0, none⟩) (n + 1) cap) (n + 1) (ks.map Value.string ++ [.string key])) (hkeep : ∀ b, b < w.heap.size -> vk.ownBlock ≠ some b -> w'.heap[b]? = w.heap[b]?) (hs : w.heap.size <= w'.heap.size) (hat : vk.ownBlock = some g ∨ w.heap.size <= g) :
  MapG nT base w'.heap.size w' (ks ++ [key]) l (.slice (some ⟨g, 0, none⟩) (n + 1) cap) vl ess F := by
 subst hn;have hvv := own_apart h.keys h.kids (by decide)
 have hgb : ∀ b, b < hi -> vk.ownBlock ≠ some b -> (Value.slice (some ⟨g, 0, none⟩) (ks.length + 1) cap).ownBlock ≠ some b := fun b hb hne e => by
  simp [Value.ownBlock] at e;subst e;rcases hat with h1 | h1
  ·exact hne h1
  ·omega
 have hlk : ∀ q, vl.ownBlock = some q -> w'.heap[q]? = w.heap[q]? := fun q hq => hkeep q (Nat.lt_of_lt_of_le (h.hl q hq) hhi) (fun e => hvv q e hq)
 refine ⟨h.len, h.six, by simpa using ho, ownsRow_carry h.kids hlk, fun q hq => (ho.lt q hq).2, fun q hq => Nat.lt_of_lt_of_le (h.hl q hq) (Nat.le_trans hhi hs), fun i b hF => ?_, h.apart, fun i d es hd he => (h.own i d es hd he).carry (fun b hF => hkeep b (Nat.lt_of_lt_of_le (h.part i b hF).2.1 hhi) (h.part i b hF).2.2.1) (fun _ h => h), fun s hs => ?_⟩
 ·obtain ⟨f1, f2, f3, f4⟩ := h.part i b hF
  exact ⟨f1, by omega, hgb b f2 f3, f4⟩
 ·rcases List.mem_append.1 hs with hs | hs
  ·exact h.size s hs
  ·simp at hs; subst hs; exact hkey
theorem MapG.pushL {nT base hi : Nat} {w w' : World} {ks : List ByteArray} {l : List TreeD} {vk vl : Value} {ess : List (List Value)} {F : Nat -> Nat -> Prop} {S : Nat -> Prop} {t : TreeD} {es : List Value} {g cap n : Nat} (h : MapG nT base hi w ks l vk vl ess F) (hhi : hi <= w.heap.size) (hbh : base <= hi) (hn : l.length = n) (ht : OwnT nT S w t es) (hS : ∀ b, S b -> hi <= b /\ b < w.heap.size)
  (ho : w'.ownsRow base 34 6 (.slice (some ⟨g, 0, none⟩) (n + 1) cap) (n + 1) (ess.flatten ++ es)) (hkeep : ∀ b, b < w.heap.size -> vl.ownBlock ≠ some b -> w'.heap[b]? = w.heap[b]?) (hs : w.heap.size <= w'.heap.size) (hat : vl.ownBlock = some g ∨ w.heap.size <= g) :
  MapG nT base w'.heap.size w' ks (l ++ [t]) vk (.slice (some ⟨g, 0, none⟩) (n + 1) cap) (ess ++ [es]) (fun i b => (i < l.length /\ F i b) ∨ (i = l.length /\ S b)) := by
 subst hn;have hvv := own_apart h.kids h.keys (by decide)
 have hgb : ∀ b, b < w.heap.size -> vl.ownBlock ≠ some b -> (Value.slice (some ⟨g, 0, none⟩) (l.length + 1) cap).ownBlock ≠ some b := fun b hb hne e => by
  simp [Value.ownBlock] at e;subst e;rcases hat with h1 | h1
  ·exact hne h1
  ·omega
 have hkk : ∀ q, vk.ownBlock = some q -> w'.heap[q]? = w.heap[q]? := fun q hq => hkeep q (Nat.lt_of_lt_of_le (h.hk q hq) hhi) (fun e => hvv q e hq)
 have hlen := h.len;refine ⟨by simp [hlen], ?_, ownsRow_carry h.keys hkk, by simpa using ho, fun q hq => Nat.lt_of_lt_of_le (h.hk q hq) (Nat.le_trans hhi hs), fun q hq => (ho.lt q hq).2, ?_, ?_, ?_, h.size⟩
 ·intro x hx
  rcases List.mem_append.1 hx with hx | hx
  ·exact h.six x hx
  ·simp at hx; subst hx; exact ht.len
 ·rintro i b (⟨-, hF⟩ | ⟨-, hF⟩)
  ·obtain ⟨f1, f2, f3, f4⟩ := h.part i b hF
   exact ⟨f1, by omega, f3, hgb b (by omega) f4⟩
  ·obtain ⟨f1, f2⟩ := hS b hF
   exact ⟨by omega, by omega, fun e => by have := h.hk b e; omega, hgb b f2 (fun e => by have := h.hl b e; omega)⟩
 ·rintro i j b (⟨hi, hF⟩ | ⟨hi, hF⟩) (⟨hj, hG⟩ | ⟨hj, hG⟩)
  ·exact h.apart i j b hF hG
  ·have := (h.part i b hF).2.1; have := (hS b hG).1; omega
  ·have := (h.part j b hG).2.1; have := (hS b hF).1; omega
  ·omega
 ·intro i d' es' hd' hes'
  by_cases hlt : i < l.length
  ·rw [List.getElem?_append_left hlt] at hd'
   rw [List.getElem?_append_left (by omega)] at hes';exact (h.own i d' es' hd' hes').carry (fun b hF => hkeep b (Nat.lt_of_lt_of_le (h.part i b hF).2.1 hhi) (h.part i b hF).2.2.2) (fun b hF => .inl ⟨hlt, hF⟩)
  ·have hil : i = l.length := by
    have := (List.getElem?_eq_some_iff.1 hd').1;simp at this;omega
   subst hil;rw [List.getElem?_append_right (by omega)] at hd';rw [List.getElem?_append_right (by omega)] at hes';simp at hd';simp [hlen] at hes';subst hd' hes';exact ht.carry (fun b hF => hkeep b (hS b hF).2 (fun e => by have := h.hl b e; have := (hS b hF).1; omega)) (fun b hF => .inr ⟨rfl, hF⟩)
theorem c_ListTreeG (n : Nat) (l : List TreeD) (K : Option Addr) (c5 : Nat) (w : World) (lo : Nat) (h : C_Tree (n + 1) lo w.heap.size w (tList l) [.int .i64 5, .bool false, .int .i64 0, .string ⟨#[]⟩, .slice none 0 0, .slice K l.length c5]) (hn : nTree (n + 1) (tList l) <= 1048576) :
  Calls Tryz.prog 148 #[.slice K l.length c5] w fun e w' => ∃ cs', e = .returned (.agg cs'.toArray) /\ OwnT (n + 1) (fun b => w.heap.size < b /\ b < w'.heap.size) w' (tList l) cs' /\ Below w.heap.size w w' := by
 go_enter Tryz.func148, Tryz.ntmps148
 go_wp2_with fail
 refine (all_l08 (n + 1) (tList l) _ _ lo (h.now bel) hn).mono ?_;rintro e w1 ⟨cs1, rfl, hO, hb⟩;obtain ⟨A4, c4, A5, c6, rfl, -⟩ := hO.flat;have Z := (hb.block w.heap.size (by simp)).trans (heap_at (by simp));have hl := row_lt Z;obtain ⟨x0, x1, x2, x3, x4, x5, xf⟩ := row6 Z;have HO := hid hO;have Bw : Below w.heap.size w w1 := Below.trans bel (hb.mono (by simp));clear Z hO hb;go_wp2_with fail
 refine bodyPost_ret (v := .agg #[.int .i64 (tList l).kind, .bool (tList l).flag, .int .i64 (tList l).num, .string (tList l).text, .slice A4 (tList l).keys.length c4, .slice A5 (tList l).kids.length c6]) (by simp only [results, Tryz.results148]; go_simp) rfl ⟨_, rfl, HO.out.carry (fun b hb => Aside.block (S := fun b => b = w.heap.size) (w := w1) asd b hb.2 (by have := hb.1; simp at this; omega)) (fun b hb => by simp at hb ⊢; omega), Bw.trans (Aside.below (S := fun b => b = w.heap.size) asd Bw.size (fun i hi => by omega))⟩
structure PutR (n : Nat) (d kid : TreeD) (A4 : Option Addr) (c4 : Nat) (A5 : Option Addr) (c5 : Nat) (E4 : Option Addr) (e4 : Nat) (E5 : Option Addr) (e5 : Nat) (B : Nat) (w wr : World) (K : List ByteArray) (V : List TreeD) (nk nv : Nat) (B4 : Option Addr) (b4 : Nat) (B5 : Option Addr) (b5 : Nat) (ess : List (List Value)) (F : Nat -> Nat -> Prop) : Prop where
 ra : wr.heap[w.heap.size]? = some (.cells #[.int .i64 d.kind, .bool d.flag, .int .i64 d.num, .string d.text, .slice A4 d.keys.length c4, .slice A5 d.kids.length c5] 34 (0, 0))
 rk : wr.heap[w.heap.size + 1]? = some (.cells #[.int .i64 kid.kind, .bool kid.flag, .int .i64 kid.num, .string kid.text, .slice E4 kid.keys.length e4, .slice E5 kid.kids.length e5] 34 (0, 0))
 rz : wr.heap[w.heap.size + 2]? = some (.cells #[.int .i64 0, .bool false, .int .i64 0, .string ⟨#[]⟩, .slice none 0 0, .slice none 0 0] 34 (0, 0))
 ro : wr.heap[B]? = some (.cells #[.int .i64 6, .bool false, .int .i64 0, .string ⟨#[]⟩, .slice B4 nk b4, .slice B5 nv b5] 34 (0, 0))
 hk : K.length = nk
 hv : V.length = nv
 map : MapG n (B + 1) wr.heap.size wr K V (.slice B4 nk b4) (.slice B5 nv b5) ess F
 below : Below w.heap.size w wr
 lt : w.heap.size + 3 <= B
theorem own_heap {wr W : World} {base : Nat} {e : TypeId} {size n : Nat} {v : Value} {xs : List Value} (h : wr.ownsRow base e size v n xs) (he : W.heap = wr.heap) : W.ownsRow base e size v n xs := ownsRow_carry h (fun q _ => by rw [he])
theorem PutR.key {n B nk nv b4 b5 c4 c5 e4 e5 : Nat} {A4 A5 E4 E5 B4 B5 : Option Addr} {d kid : TreeD} {w wr : World} {K : List ByteArray} {V : List TreeD} {ess : List (List Value)} {F : Nat -> Nat -> Prop} {w1 : World} {g cap : Nat} {key : ByteArray} (h : PutR n d kid A4 c4 A5 c5 E4 e4 E5 e5 B w wr K V nk nv B4 b4 B5 b5 ess F) (hkey : key.size <= 9223372036854775807)
  (ho : w1.ownsRow (B + 1) 9 1 (.slice (some ⟨g, 0, none⟩) (nk + 1) cap) (nk + 1) (K.map Value.string ++ [.string key])) (hkeep : ∀ b, b < wr.heap.size -> (Value.slice B4 nk b4).ownBlock ≠ some b -> w1.heap[b]? = wr.heap[b]?) (hs : wr.heap.size <= w1.heap.size) (hb : Below w.heap.size w w1) (hat : (Value.slice B4 nk b4).ownBlock = some g ∨ wr.heap.size <= g) :
  w1.heap[B]? = some (.cells #[.int .i64 6, .bool false, .int .i64 0, .string ⟨#[]⟩, .slice B4 nk b4, .slice B5 nv b5] 34 (0, 0)) /\ PutR n d kid A4 c4 A5 c5 E4 e4 E5 e5 B w (w1.setCell ⟨B, 4, none⟩ (.slice (some ⟨g, 0, none⟩) (nk + 1) cap)) (K ++ [key]) V (nk + 1) nv (some ⟨g, 0, none⟩) cap B5 b5 ess F := by
 have hl := row_lt h.ro;have hlt := h.lt;have hno : ∀ b, b <= B -> (Value.slice B4 nk b4).ownBlock ≠ some b := fun b hb e => by have := (h.map.keys.lt b e).1; omega
 have hk4 := fun b (hb : b <= B) => hkeep b (by omega) (hno b hb)
 have hM := h.map.pushK (Nat.le_refl _) h.hk hkey ho hkeep hs hat;refine ⟨(hk4 B (Nat.le_refl _)).trans h.ro, ?_, ?_, ?_, ?_, by rw [List.length_append, h.hk]; rfl, h.hv, hM.carry (by simp) (fun q h1 _ => Below.heap_setCell _ _ _ q (by simp; omega)), hb.setCell (by simp; omega) _, hlt⟩
 ·exact (Below.heap_setCell _ _ _ _ (by simp; omega)).trans ((hk4 _ (by omega)).trans h.ra)
 ·exact (Below.heap_setCell _ _ _ _ (by simp; omega)).trans ((hk4 _ (by omega)).trans h.rk)
 ·exact (Below.heap_setCell _ _ _ _ (by simp; omega)).trans ((hk4 _ (by omega)).trans h.rz)
 ·exact heap_setCell_same w1 B 4 _ _ _ ((hk4 B (Nat.le_refl _)).trans h.ro)
theorem PutR.kid {n B nk nv b4 b5 c4 c5 e4 e5 : Nat} {A4 A5 E4 E5 B4 B5 : Option Addr} {d kid : TreeD} {w wr : World} {K : List ByteArray} {V : List TreeD} {ess : List (List Value)} {F : Nat -> Nat -> Prop} {w9 w2 : World} {g cap : Nat} {t : TreeD} {es : List Value} (h : PutR n d kid A4 c4 A5 c5 E4 e4 E5 e5 B w wr K V nk nv B4 b4 B5 b5 ess F) (hk9 : ∀ b, b < wr.heap.size -> w9.heap[b]? = wr.heap[b]?) (hs9 : wr.heap.size <= w9.heap.size) (ht : OwnT n (fun b => wr.heap.size <= b /\ b < w9.heap.size) w9 t es)
  (ho : w2.ownsRow (B + 1) 34 6 (.slice (some ⟨g, 0, none⟩) (nv + 1) cap) (nv + 1) (ess.flatten ++ es)) (hkeep : ∀ b, b < w9.heap.size -> (Value.slice B5 nv b5).ownBlock ≠ some b -> w2.heap[b]? = w9.heap[b]?) (hs : w9.heap.size <= w2.heap.size) (hb : Below w.heap.size w w2) (hat : (Value.slice B5 nv b5).ownBlock = some g ∨ w9.heap.size <= g) :
  w2.heap[B]? = some (.cells #[.int .i64 6, .bool false, .int .i64 0, .string ⟨#[]⟩, .slice B4 nk b4, .slice B5 nv b5] 34 (0, 0)) /\ ∃ F', PutR n d kid A4 c4 A5 c5 E4 e4 E5 e5 B w (w2.setCell ⟨B, 5, none⟩ (.slice (some ⟨g, 0, none⟩) (nv + 1) cap)) K (V ++ [t]) nk (nv + 1) B4 b4 (some ⟨g, 0, none⟩) cap (ess ++ [es]) F' := by
 have hl := row_lt h.ro;have hlt := h.lt;have hno : ∀ b, b <= B -> (Value.slice B5 nv b5).ownBlock ≠ some b := fun b hb e => by have := (h.map.kids.lt b e).1; omega
 have hk4 := fun b (hb : b <= B) => (hkeep b (by omega) (hno b hb)).trans (hk9 b (by omega))
 have hM := (h.map.carry (Nat.le_refl _) (fun q _ hq => hk9 q hq)).pushL hs9 (by omega) h.hv ht (fun b hb => hb) ho hkeep hs hat;refine ⟨(hk4 B (Nat.le_refl _)).trans h.ro, _, ?_, ?_, ?_, ?_, h.hk, by rw [List.length_append, h.hv]; rfl, hM.carry (by simp) (fun q h1 _ => Below.heap_setCell _ _ _ q (by simp; omega)), hb.setCell (by simp; omega) _, hlt⟩
 ·exact (Below.heap_setCell _ _ _ _ (by simp; omega)).trans ((hk4 _ (by omega)).trans h.ra)
 ·exact (Below.heap_setCell _ _ _ _ (by simp; omega)).trans ((hk4 _ (by omega)).trans h.rk)
 ·exact (Below.heap_setCell _ _ _ _ (by simp; omega)).trans ((hk4 _ (by omega)).trans h.rz)
 ·exact heap_setCell_same w2 B 5 _ _ _ ((hk4 B (Nat.le_refl _)).trans h.ro)
theorem putS_len (key : ByteArray) (kid : TreeD) (ks : List ByteArray) (vs : List TreeD) : ∀ i, (putS key kid ks vs i).ks.length = (putS key kid ks vs i).vs.length /\ (putS key kid ks vs i).ks.length <= i + 1 /\ ((putS key kid ks vs i).laid = false -> (putS key kid ks vs i).ks.length <= i)
 | 0 => ⟨rfl, Nat.zero_le _, fun _ => Nat.le_refl _⟩
 | i + 1 => by
  obtain ⟨h1, h2, h3⟩ := putS_len key kid ks vs i;rw [putS];split
  ·unfold putOne
   generalize putS key kid ks vs i = st at *;obtain ⟨l, K, V⟩ := st;simp only at *;repeat' split
   rotate_left
   rotate_left
   ·exact ⟨h1, (show K.length <= i + 1 + 1 by omega), fun h => (show K.length <= i + 1 by have := h3 h; omega)⟩
   ·exact ⟨by simp [h1], by simp; omega, fun h => by have := h3 h; simp; omega⟩
   all_goals
    rename_i c _
    simp at c;have := h3 c.1;refine ⟨by simp [h1], by simp; omega, fun h => by cases h⟩
  ·exact ⟨h1, by omega, fun h => by have := h3 h; omega⟩
def PutP (n : Nat) (d : TreeD) (key : ByteArray) (kid : TreeD) (w : World) (e : Ending) (w' : World) : Prop :=
 ∃ cs', e = .returned (.tuple #[.agg cs'.toArray, .bool (putB (n + 1) d key kid)]) /\ OwnT (n + 1) (fun q => w.heap.size <= q /\ q < w'.heap.size) w' (putT (n + 1) d key kid) cs' /\ Below w.heap.size w w'
theorem put_no {n : Nat} {d kid : TreeD} {key : ByteArray} {w wF : World} {C4 C5 : Option Addr} {n4 d4 n5 d5 : Nat} {k m : Int} {f : Bool} {t : ByteArray} (h : putB (n + 1) d key kid = false) (hO : OwnT (n + 1) (fun q => w.heap.size <= q /\ q < wF.heap.size) wF d [.int .i64 k, .bool f, .int .i64 m, .string t, .slice C4 n4 d4, .slice C5 n5 d5]) (hb : Below w.heap.size w wF) :
  PutP n d key kid w (.returned (.tuple #[.agg #[.int .i64 k, .bool f, .int .i64 m, .string t, .slice C4 n4 d4, .slice C5 n5 d5], .bool false])) wF := by
 refine ⟨_, by rw [h], ?_, hb⟩;unfold putT;rw [if_neg (by rw [h]; decide)];exact hO
theorem c_put_kind (n : Nat) (d kid : TreeD) (cs es : List Value) (key : ByteArray) (w : World) (lo : Nat) (h : C_Tree (n + 1) lo w.heap.size w d cs) (hkd : C_Tree n lo w.heap.size w kid es) (_hkey : key.size <= 9223372036854775807) (_hz : sizeT (n + 1) d <= 1073741824) (_hkz : sizeT n kid <= 1048576) (hn : nTree (n + 1) d <= 1048576) (_hkn : nTree n kid <= 1048576) (hd : d.kind ≠ 6) : Calls Tryz.prog 149 #[.agg cs.toArray, .string key, .agg es.toArray] w (PutP n d key kid w) := by
 have HF := hid (show putB (n + 1) d key kid = false by unfold putB; rw [beq_eq_false_iff_ne.2 hd]; rfl);have hx : (d.kind != 6) = true := bne_iff_ne.2 hd;obtain ⟨A4, c4, A5, c5, rfl⟩ := C_Tree.open h;obtain ⟨E4, e4, E5, e5, rfl⟩ := C_Tree.open hkd;have HC := hid h;clear h hd;go_enter Tryz.func149, Tryz.ntmps149
 go_wp2_with fail
 refine (all_l08 (n + 1) d _ _ lo (HC.out.now bel) hn).mono ?_;rintro e wc ⟨cs1, rfl, hO, hbc⟩;obtain ⟨C4, d4, C5, d5, rfl, -⟩ := hO.flat;have Zc := (hbc.block (w.heap.size + 2) (by simp; try omega)).trans (heap_at (by simp));have zl := row_lt Zc;obtain ⟨z0, z1, z2, z3, z4, z5, zf⟩ := row6 Zc;have HO := hid hO;have Bc : Below w.heap.size w wc := Below.trans bel (hbc.mono (by simp; try omega))
 have hzc := hbc.size;simp at hzc;clear Zc hO hbc;go_wp2_with fail
 refine bodyPost_ret (v := .tuple #[.agg #[.int .i64 d.kind, .bool d.flag, .int .i64 d.num, .string d.text, .slice C4 d.keys.length d4, .slice C5 d.kids.length d5], .bool false]) (by simp only [results, Tryz.results149]; go_simp) rfl (put_no HF.out (HO.out.carry (fun b hb => Aside.block (S := fun b => b = w.heap.size + 2) (w := wc) asd b hb.2 (by have q1 := hb.1; (try simp at q1); omega)) (fun b hb => by have q1 := hb.1; have q2 := hb.2; (try simp at q1); (try simp at q2); (try simp); omega)) (Bc.trans (Aside.below (S := fun b => b = w.heap.size + 2) asd Bc.size (fun i hi => by omega))))
theorem c_put_not (n : Nat) (d kid : TreeD) (cs es : List Value) (key : ByteArray) (w : World) (lo : Nat) (h : C_Tree (n + 1) lo w.heap.size w d cs) (hkd : C_Tree n lo w.heap.size w kid es) (_hkey : key.size <= 9223372036854775807) (hz : sizeT (n + 1) d <= 1073741824) (_hkz : sizeT n kid <= 1048576) (hn : nTree (n + 1) d <= 1048576) (_hkn : nTree n kid <= 1048576) (hd : d.kind = 6) (ho : okT (n + 1) d = false) : Calls Tryz.prog 149 #[.agg cs.toArray, .string key, .agg es.toArray] w (PutP n d key kid w) := by
 have HF := hid (show putB (n + 1) d key kid = false by unfold putB; rw [ho, Bool.and_false]; rfl);have hx : (d.kind != 6) = false := by simp [hd]
 obtain ⟨A4, c4, A5, c5, rfl⟩ := C_Tree.open h;obtain ⟨E4, e4, E5, e5, rfl⟩ := C_Tree.open hkd;have HC := hid h;have Ho := hid ho;clear h hd ho;go_enter Tryz.func149, Tryz.ntmps149
 go_wp2_with fail
 refine (c_spec_TreeOk (n + 1) d _ _ lo (HC.out.now bel) hz).mono ?_;rintro e w1 ⟨rfl, hb1⟩;rw [Ho.out];have HB1 := hid (Below.trans bel (hb1.mono (by simp; try omega)) : Below w.heap.size w w1);have hA := hid ((hb1.block w.heap.size (by simp; try omega)).trans ((Below.heap_alloc _ _ _ (by simp; try omega)).trans ((Below.heap_alloc _ _ _ (by simp; try omega)).trans (heap_at rfl))));have hZ := hid ((hb1.block (w.heap.size + 2) (by simp; try omega)).trans (heap_at (by simp)))
 have al := row_lt hA.out;have zl1 := row_lt hZ.out;have hB := HB1.out;obtain ⟨a0, a1, a2, a3, a4, a5, af⟩ := row6 hA.out;clear hb1;go_wp2_with fail
 refine (all_l08 (n + 1) d _ _ lo (HC.out.now bel) hn).mono ?_;rintro e wc ⟨cs1, rfl, hO, hbc⟩;obtain ⟨C4, d4, C5, d5, rfl, -⟩ := hO.flat;have Zc := (hbc.block (w.heap.size + 2) (row_lt hZ.out)).trans hZ.out;have zl := row_lt Zc;obtain ⟨z0, z1, z2, z3, z4, z5, zf⟩ := row6 Zc;have HO := hid hO;have Bc : Below w.heap.size w wc := HB1.out.trans (hbc.mono HB1.out.size);have hzc := hbc.size;clear Zc hO hbc
 go_wp2_with fail
 refine bodyPost_ret (v := .tuple #[.agg #[.int .i64 d.kind, .bool d.flag, .int .i64 d.num, .string d.text, .slice C4 d.keys.length d4, .slice C5 d.kids.length d5], .bool false]) (by simp only [results, Tryz.results149]; go_simp) rfl (put_no HF.out (HO.out.carry (fun b hb => Aside.block (S := fun b => b = w.heap.size + 2) (w := wc) asd b hb.2 (by have q1 := hb.1; (try simp at q1); omega)) (fun b hb => by have q1 := hb.1; have q2 := hb.2; (try simp at q1); (try simp at q2); (try simp); omega)) (Bc.trans (Aside.below (S := fun b => b = w.heap.size + 2) asd Bc.size (fun i hi => by omega))))
end Go.Proofs.YtohcpifekcehjaaGreatDoor
