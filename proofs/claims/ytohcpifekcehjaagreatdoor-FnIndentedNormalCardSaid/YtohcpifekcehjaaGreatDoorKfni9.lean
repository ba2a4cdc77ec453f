/- Steps to FnIndentedNormal. No conditions. -/
import Derived.Test.YtohcpifekcehjaaGreatDoorKfni8
import Derived.Test.YtohcpifekcehjaaGreatDoorKfni7
import Derived.Deep.RegionLaw
import Derived.Deep.CutBlock
import Derived.Deep.CutRange
import Derived.Test.YtohcpifekcehjaaGreatDoorKfni5
import Derived.Test.YtohcpifekcehjaaGreatDoorKfni1
import Derived.Test.YtohcpifekcehjaaGreatDoorKfni2
import Derived.Test.YtohcpifekcehjaaGreatDoorKfni4
import Derived.Test.YtohcpifekcehjaaGreatDoorKfni3
import Derived.Test.YtohcpifekcehjaaGreatDoorKfni6
set_option maxHeartbeats 16000000
set_option maxRecDepth 20000
namespace Go.Proofs.YtohcpifekcehjaaGreatDoor
open Go.RowKit Go.Lib
structure PutSt where
 laid : Bool
 ks : List ByteArray
 vs : List TreeD
def UN (key : ByteArray) (kid : TreeD) (st : PutSt) (k : ByteArray) (v : TreeD) : PutSt :=
 if !st.laid && !JU k key then (if k = key then ⟨true, st.ks ++ [key], st.vs ++ [kid]⟩ else ⟨true, (st.ks ++ [key]) ++ [k], (st.vs ++ [kid]) ++ [v]⟩)
 else (if k = key then st else ⟨st.laid, st.ks ++ [k], st.vs ++ [v]⟩)
def YD (key : ByteArray) (kid : TreeD) (ks : List ByteArray) (vs : List TreeD) : Nat -> PutSt
 | 0 => ⟨false, [], []⟩
 | i + 1 => match ks[i]?, vs[i]? with | some k, some v => UN key kid (YD key kid ks vs i) k v | _, _ => YD key kid ks vs i
theorem JcX {key : ByteArray} {kid : TreeD} {ks : List ByteArray} {vs : List TreeD} {i : Nat} {k : ByteArray} {v : TreeD} (hk : ks[i]? = some k) (hv : vs[i]? = some v) : YD key kid ks vs (i + 1) = UN key kid (YD key kid ks vs i) k v := by
 rw [YD, hk, hv]
def JbH (key : ByteArray) (kid : TreeD) (st : PutSt) : PutSt := if st.laid then st else ⟨true, st.ks ++ [key], st.vs ++ [kid]⟩
def Ja2 (d : TreeD) (key : ByteArray) (kid : TreeD) : TreeD := QD (JbH key kid (YD key kid d.keys d.kids d.keys.length)).ks (JbH key kid (YD key kid d.keys d.kids d.keys.length)).vs
def JbR (n : Nat) (d : TreeD) (key : ByteArray) (kid : TreeD) : Bool := d.kind == 6 && Uu n d && Uu n (Ja2 d key kid)
def JjA (n : Nat) (d : TreeD) (key : ByteArray) (kid : TreeD) : TreeD := if JbR n d key kid = true then Ja2 d key kid else d
structure PutI (key : ByteArray) (kid : TreeD) (ks : List ByteArray) (vs : List TreeD) (i : Nat) (st : PutSt) : Prop where
 len : st.ks.length = st.vs.length
 cnt : st.ks.length <= i + 1
 cnt0 : st.laid = false -> st.ks.length <= i
 sort : Q4 st.ks
 mem : ∀ x ∈ st.ks, x = key ∨ x ∈ ks
 memv : ∀ x ∈ st.vs, x = kid ∨ x ∈ vs
 low : ∀ x ∈ st.ks, ∀ j k, i <= j -> ks[j]? = some k -> JU x k = true
 yet : st.laid = false -> ∀ x ∈ st.ks, JU x key = true
theorem Wn {ks : List ByteArray} {k : ByteArray} (h : Q4 ks) (hk : ∀ x ∈ ks, JU x k = true) : Q4 (ks ++ [k]) := by
 unfold Q4 at *;rw [List.pairwise_append];refine ⟨h, by simp, fun a ha b hb => ?_⟩;simp at hb;subst hb;exact hk a ha
theorem Jec {ks : List ByteArray} (h : Q4 ks) {i j : Nat} {a b : ByteArray} (hij : i < j) (ha : ks[i]? = some a) (hb : ks[j]? = some b) : JU a b = true := by
 obtain ⟨g1, g2⟩ := List.getElem?_eq_some_iff.1 ha;obtain ⟨f1, f2⟩ := List.getElem?_eq_some_iff.1 hb;have := List.pairwise_iff_getElem.1 h i j g1 f1 hij;rw [g2, f2] at this;exact this
theorem PutI.push {key : ByteArray} {kid : TreeD} {ks : List ByteArray} {vs : List TreeD} {i : Nat} {k : ByteArray} {v : TreeD} (hs : Q4 ks) (hk : ks[i]? = some k) (hv : vs[i]? = some v) {l : Bool} {K : List ByteArray} {V : List TreeD}
  (h1 : K.length = V.length) (h2 : K.length <= i + 1) (h2' : l = false -> K.length <= i) (h3 : Q4 K) (h4 : ∀ x ∈ K, x = key ∨ x ∈ ks) (h5 : ∀ x ∈ V, x = kid ∨ x ∈ vs) (h6 : ∀ x ∈ K, ∀ j k, i <= j -> ks[j]? = some k -> JU x k = true) (h7 : l = false -> ∀ x ∈ K, JU x key = true) (h8 : l = false -> JU k key = true) :
  PutI key kid ks vs (i + 1) ⟨l, K ++ [k], V ++ [v]⟩ := by
 refine ⟨by simp [h1], by simp; omega, fun h => by have := h2' h; simp; omega, Wn h3 (fun x hx => h6 x hx i k (Nat.le_refl _) hk), ?_, ?_, ?_, ?_⟩
 ·intro x hx
  rcases List.mem_append.1 hx with hx | hx
  ·exact h4 x hx
  simp at hx; subst hx; exact .inr (List.mem_of_getElem? hk)
 ·intro x hx
  rcases List.mem_append.1 hx with hx | hx
  ·exact h5 x hx
  simp at hx; subst hx; exact .inr (List.mem_of_getElem? hv)
 ·intro x hx j y hj hy
  rcases List.mem_append.1 hx with hx | hx
  ·exact h6 x hx j y (by omega) hy
  simp at hx; subst hx; exact Jec hs (by omega) hk hy
 intro hl x hx;rcases List.mem_append.1 hx with hx | hx
 ·exact h7 hl x hx
 simp at hx; subst hx; exact h8 hl
theorem PutI.step {key : ByteArray} {kid : TreeD} {ks : List ByteArray} {vs : List TreeD} {i : Nat} {k : ByteArray} {v : TreeD} (hs : Q4 ks) (hk : ks[i]? = some k) (hv : vs[i]? = some v) {st : PutSt} (h : PutI key kid ks vs i st) : PutI key kid ks vs (i + 1) (UN key kid st k v) := by
 obtain ⟨l, K, V⟩ := st;obtain ⟨h1, h2, h2', h3, h4, h5, h6, h7⟩ := h;unfold UN;dsimp only at *;by_cases c : (!l && !JU k key) = true
 ·rw [if_pos c]
  simp at c;obtain ⟨rfl, c⟩ := c;have h2 := h2' rfl;have h7 := h7 rfl
  have hmem : ∀ x ∈ K ++ [key], x = key ∨ x ∈ ks := fun x hx => by
   rcases List.mem_append.1 hx with hx | hx
   ·exact h4 x hx
   simp at hx; exact .inl hx
  have hmv : ∀ x ∈ V ++ [kid], x = kid ∨ x ∈ vs := fun x hx => by
   rcases List.mem_append.1 hx with hx | hx
   ·exact h5 x hx
   simp at hx; exact .inl hx
  by_cases e : k = key
  ·rw [if_pos e]
   subst e;refine ⟨by simp [h1], by simp; omega, fun h => ((by cases h)), Wn h3 h7, hmem, hmv, ?_, fun h => ((by cases h))⟩;intro x hx j y hj hy;rcases List.mem_append.1 hx with hx | hx
   ·exact h6 x hx j y (by omega) hy
   simp at hx; subst hx; exact Jec hs (by omega) hk hy
  rw [if_neg e];have hlt : JU key k = true := U1 c e;refine PutI.push hs hk hv (by simp [h1]) (by simp; omega) (fun h => (by cases h)) (Wn h3 h7) hmem hmv ?_ (fun h => (by cases h)) (fun h => (by cases h));intro x hx j y hj hy;rcases List.mem_append.1 hx with hx | hx
  ·exact h6 x hx j y hj hy
  simp at hx;subst hx;rcases Nat.eq_or_lt_of_le hj with rfl | hj
  ·rw [hk] at hy; cases hy; exact hlt
  exact YG hlt (Jec hs hj hk hy)
 rw [if_neg c];by_cases e : k = key
 ·rw [if_pos e]
  exact ⟨h1, (show K.length <= i + 1 + 1 by omega), fun h => (show K.length <= i + 1 by have := h2' h; omega), h3, h4, h5, fun x hx j y hj hy => h6 x hx j y (by omega) hy, h7⟩
 rw [if_neg e];refine PutI.push hs hk hv h1 h2 h2' h3 h4 h5 h6 h7 (fun hl => ?_);subst hl
 simpa using c
theorem Jfq {key : ByteArray} {kid : TreeD} {ks : List ByteArray} {vs : List TreeD} (hs : Q4 ks) (hl : ks.length = vs.length) : ∀ i, i <= ks.length -> PutI key kid ks vs i (YD key kid ks vs i)
 | 0, _ => ⟨rfl, Nat.zero_le _, fun _ => Nat.le_refl _, List.Pairwise.nil, fun x hx => ((by cases hx)), fun x hx => ((by cases hx)), fun x hx => ((by cases hx)), fun _ x hx => ((by cases hx))⟩
 | i + 1, hi => by
  obtain ⟨k, hk⟩ := Jg (show i < ks.length by omega);obtain ⟨v, hv⟩ := Jg (show i < vs.length by omega);rw [JcX hk hv];exact (Jfq hs hl i (by omega)).step hs hk hv
structure Maps (key : ByteArray) (kid : TreeD) (ks : List ByteArray) (vs : List TreeD) (K : List ByteArray) (V : List TreeD) : Prop where
 len : K.length = V.length
 cnt : K.length <= ks.length + 1
 sort : Q4 K
 mem : ∀ x ∈ K, x = key ∨ x ∈ ks
 memv : ∀ x ∈ V, x = kid ∨ x ∈ vs
theorem JiW {key : ByteArray} {kid : TreeD} {ks : List ByteArray} {vs : List TreeD} {st : PutSt} (h : PutI key kid ks vs ks.length st) : Maps key kid ks vs (JbH key kid st).ks (JbH key kid st).vs := by
 obtain ⟨l, K, V⟩ := st;obtain ⟨h1, h2, h2', h3, h4, h5, h6, h7⟩ := h;unfold JbH;dsimp only at *;cases l with
 | true => exact ⟨h1, h2, h3, h4, h5⟩
 | false =>
  have := h2' rfl;refine ⟨by simp [h1], by simp; omega, Wn h3 (h7 rfl), fun x hx => ?_, fun x hx => ?_⟩
  ·rcases List.mem_append.1 hx with hx | hx
   ·exact h4 x hx
   simp at hx; exact .inl hx
  rcases List.mem_append.1 hx with hx | hx
  ·exact h5 x hx
  simp at hx; exact .inl hx
theorem Jh2 {d : TreeD} (key : ByteArray) (kid : TreeD) (hs : Q4 d.keys) (hl : d.keys.length = d.kids.length) : ∃ K V, Ja2 d key kid = QD K V /\ Maps key kid d.keys d.kids K V :=
 ⟨_, _, rfl, JiW (Jfq hs hl _ (Nat.le_refl _))⟩
def szB : Nat -> Nat
 | 0 => 0
 | k + 1 => 1 + 4 * szB k
def syB : Nat -> Nat
 | 0 => 0
 | 1 => 122
 | k + 2 => 2 + 4 * (124 + syB (k + 1))
def ceB : Nat -> Nat
 | 0 => 0
 | k + 1 => 120 + 4 * ceB k
theorem ZN : WordOk ⟨#[]⟩ := JfV (by decide) (by decide)
def Jkw : Nat -> TreeD -> Prop
 | 0, _ => False
 | k + 1, d => WordOk d.text /\ (∀ x ∈ d.keys, WordOk x) /\ d.kids.length <= 4 /\ ∀ t ∈ d.kids, Jkw k t
structure Drawn (k : Nat) (d : TreeD) : Prop where
 shape : Ju k d = true
 num : ZS k d
 size : Jl k d <= szB k
 say : (VK k d).length <= syB k
 cells : QT k d <= ceB k
 word : Jkw k d
theorem Je0 : ∀ (k : Nat) (d : TreeD), Jw k d <= k
 | 0, _ => Nat.le_refl _
 | k + 1, d => by
  rw [QF];have := Jd3 (f := Jw k) (b := k) (l := d.kids) (fun x _ => Je0 k x);omega
theorem Drawn.ok {k : Nat} {d : TreeD} (h : Drawn k d) (hk : k <= 4) : Uu k d = true := by
 have h1 := Je0 k d;have h2 := h.size
 have h3 : szB k <= szB 4 := by
  rcases (show k = 0 ∨ k = 1 ∨ k = 2 ∨ k = 3 ∨ k = 4 by omega) with rfl | rfl | rfl | rfl | rfl <;> decide
 have h4 : szB 4 = 85 := rfl;rw [XG, h.shape, JmG (by omega), JmG (by omega)];rfl
theorem Yb {D : Type} {f : D -> Nat} {B : Nat} : ∀ {l : List D}, (∀ x ∈ l, f x <= B) -> QZ f l <= l.length * B
 | [], _ => Nat.zero_le _
 | x :: l, h => by
  have h1 := h x (by simp);have h2 := Yb (f := f) (B := B) (l := l) (fun y hy => h y (by simp [hy]));simp only [QZ, List.length_cons, Nat.add_mul, Nat.one_mul];omega
theorem Jll (k : Nat) : 122 <= syB (k + 1) := by
 cases k with
 | zero => exact Nat.le_refl _
 | succ k => unfold syB; omega
theorem Uj {k : Nat} {t : TreeD} (h1 : Va t = false) (h2 : WordOk t.text) (h3 : JQ t = true) (h4 : t.keys = []) (h5 : t.kids = []) (h6 : QA t.num) (h7 : (VK (k + 1) t).length <= 122) : Drawn (k + 1) t := by
 have h := Yj (N := k) (d := 1) (by omega) h1 h2.str h3 h4 h5 h6;refine ⟨h.1.shape, h.1.num, ?_, Nat.le_trans h7 (Jll k), ?_, h2, fun x hx => (by rw [h4] at hx; cases hx), by rw [h5]; exact Nat.zero_le _, fun x hx => (by rw [h5] at hx; cases hx)⟩
 ·rw [h.2]; unfold szB; omega
 rw [V0, h4, h5];have := h2.2;simp only [nL, QZ, List.length_nil];unfold ceB;omega
theorem JiM {m B : Nat} (h : m <= 4) : m * B <= 4 * B := Nat.mul_le_mul_right B h
theorem Jck {k : Nat} {l : List TreeD} (hl : l.length <= 4) (h : ∀ t ∈ l, Drawn (k + 1) t) : Drawn (k + 2) (JY l) := by
 have hs : Va (JY l) = false := by unfold Va JY Q6; simp
 have m1 := Yb (f := Jl (k + 1)) (B := szB (k + 1)) (l := l) (fun x hx => (h x hx).size);have m2 := Yb (f := QT (k + 1)) (B := ceB (k + 1)) (l := l) (fun x hx => (h x hx).cells);have m3 := Yb (f := fun t => (VK (k + 1) t).length + 1) (B := syB (k + 1) + 1) (l := l) (fun x hx => by have := (h x hx).say; omega);have q1 := JiM (B := szB (k + 1)) hl;have q2 := JiM (B := ceB (k + 1)) hl
 have q3 := JiM (B := syB (k + 1) + 1) hl;refine ⟨UL hs QL rfl (fun i hi => by simp [JY] at hi) (fun t ht => (h t ht).shape), ⟨(show QA 0 from by unfold QA; decide), fun t ht => (h t ht).num⟩, ?_, ?_, ?_, ZN, fun x hx => (by cases hx), hl, fun t ht => (h t ht).word⟩
 ·rw [JJ]
  show 1 + QZ (Jl (k + 1)) l <= 1 + 4 * szB (k + 1)
  omega
 ·by_cases hne : l = []
  ·subst hne
   show 2 <= 2 + 4 * (124 + syB (k + 1))
   omega
  rw [Jkc hne];show _ <= 2 + 4 * (124 + syB (k + 1))
  omega
 rw [V0];show (⟨#[]⟩ : ByteArray).size + nL ByteArray.size [] + nL (QT (k + 1)) l <= 120 + 4 * ceB (k + 1)
 have e0 : (⟨#[]⟩ : ByteArray).size = 0 := rfl;simp only [nL, QZ, List.length_nil];omega
structure MapD (k m : Nat) (ks : List ByteArray) (l : List TreeD) : Prop where
 len : ks.length = l.length
 cnt : ks.length <= m
 sort : Q4 ks
 word : ∀ x ∈ ks, WordOk x
 kid : ∀ t ∈ l, Drawn k t
theorem MapD.nil (k : Nat) : MapD k 0 [] [] := ⟨rfl, Nat.le_refl _, List.Pairwise.nil, fun x hx => ((by cases hx)), fun x hx => ((by cases hx))⟩
theorem JcU {k : Nat} {ks : List ByteArray} {l : List TreeD} (h : MapD (k + 1) 4 ks l) : Drawn (k + 2) (QD ks l) := by
 obtain ⟨hlen, hcnt, hsort, hword, hkid⟩ := h;have hl : l.length <= 4 := by omega
 have hs : Va (QD ks l) = false := by unfold Va QD Q6; simp
 have m1 := Yb (f := Jl (k + 1)) (B := szB (k + 1)) (l := l) (fun x hx => (hkid x hx).size);have m2 := Yb (f := QT (k + 1)) (B := ceB (k + 1)) (l := l) (fun x hx => (hkid x hx).cells);have m3 := Yb (f := fun t => (VK (k + 1) t).length + 1) (B := syB (k + 1) + 1) (l := l) (fun x hx => by have := (hkid x hx).say; omega);have m4 := Yb (f := Jir) (B := 123) (l := ks) (fun x hx => by have := (hword x hx).quote; unfold Jir; omega)
 have m5 := Yb (f := ByteArray.size) (B := 20) (l := ks) (fun x hx => (hword x hx).2);have q1 := JiM (B := szB (k + 1)) hl;have q2 := JiM (B := ceB (k + 1)) hl;have q3 := JiM (B := syB (k + 1) + 1) hl;refine ⟨UL hs QL (by unfold JQ QD; simp [hlen]) (JhZ hsort (fun x hx => (hword x hx).str)) (fun t ht => (hkid t ht).shape), ⟨(show QA 0 from by unfold QA; decide), fun t ht => (hkid t ht).num⟩, ?_, ?_, ?_, ZN, hword, hl, fun t ht => (hkid t ht).word⟩
 ·rw [JJ]
  show 1 + QZ (Jl (k + 1)) l <= 1 + 4 * szB (k + 1)
  omega
 ·by_cases hne : l = []
  ·subst hne
   show 2 <= 2 + 4 * (124 + syB (k + 1))
   omega
  rw [JkU hne hlen];show _ <= 2 + 4 * (124 + syB (k + 1))
  omega
 rw [V0];show (⟨#[]⟩ : ByteArray).size + nL ByteArray.size ks + nL (QT (k + 1)) l <= 120 + 4 * ceB (k + 1)
 have e0 : (⟨#[]⟩ : ByteArray).size = 0 := rfl;simp only [nL];omega
theorem MapD.more {k m m' : Nat} {ks : List ByteArray} {l : List TreeD} (h : MapD k m ks l) (hm : m <= m') : MapD k m' ks l := ⟨h.len, Nat.le_trans h.cnt hm, h.sort, h.word, h.kid⟩
theorem MapD.put {k m n : Nat} {ks : List ByteArray} {l : List TreeD} {key : ByteArray} {kid : TreeD} (h : MapD k m ks l) (hk : WordOk key) (ht : Drawn k kid) : ∃ K V, JjA n (QD ks l) key kid = QD K V /\ MapD k (m + 1) K V := by
 unfold JjA;by_cases c : JbR n (QD ks l) key kid = true
 ·rw [if_pos c]
  obtain ⟨K, V, h1, h2⟩ := Jh2 (d := QD ks l) key kid h.sort h.len;refine ⟨K, V, h1, h2.len, Nat.le_trans h2.cnt (Nat.add_le_add_right h.cnt 1), h2.sort, fun x hx => ?_, fun x hx => ?_⟩
  ·rcases h2.mem x hx with rfl | hx
   ·exact hk
   exact h.word x hx
  rcases h2.memv x hx with rfl | hx
  ·exact ht
  exact h.kid x hx
 rw [if_neg c];exact ⟨ks, l, rfl, h.more (Nat.le_add_right _ _)⟩
theorem Drawn.fits {k : Nat} {d : TreeD} (h : Drawn k d) (hk : k <= 4) : QT k d <= 1048576 /\ Jl k d <= 1073741824 /\ (VK k d).length <= 18266 := by
 have h2 := h.size;have h3 := h.cells;have h4 := h.say;rcases (show k = 0 ∨ k = 1 ∨ k = 2 ∨ k = 3 ∨ k = 4 by omega) with rfl | rfl | rfl | rfl | rfl
 all_goals
  exact ⟨Nat.le_trans h3 (by decide), Nat.le_trans h2 (by decide), Nat.le_trans h4 (by decide)⟩
theorem Vf (t : ByteArray) (w : World) : Calls Tryz.prog 140 #[.string t] w fun e w' => e = .returned (.agg #[.int .i64 4, .bool false, .int .i64 0, .string t, .slice none 0 0, .slice none 0 0]) /\ Below w.heap.size w w' := by
 go_enter Tryz.func140, Tryz.ntmps140
 go_wp2_with fail
 exact bodyPost_ret (v := .agg #[.int .i64 4, .bool false, .int .i64 0, .string t, .slice none 0 0, .slice none 0 0]) (by simp only [results, Tryz.results140]; go_simp) rfl ⟨rfl, Jj⟩
theorem Ui (x : Int) (w : World) : Calls Tryz.prog 139 #[.int .i64 x] w fun e w' => e = .returned (.agg #[.int .i64 3, .bool false, .int .i64 x, .string ⟨#[]⟩, .slice none 0 0, .slice none 0 0]) /\ Below w.heap.size w w' := by
 go_enter Tryz.func139, Tryz.ntmps139
 go_wp2_with fail
 exact bodyPost_ret (v := .agg #[.int .i64 3, .bool false, .int .i64 x, .string ⟨#[]⟩, .slice none 0 0, .slice none 0 0]) (by simp only [results, Tryz.results139]; go_simp) rfl ⟨rfl, Jj⟩
open Go.RowKit
def JjP (n : Nat) : Prop := ∀ (d : TreeD) (cs : List Value) (w : World) (lo : Nat) (_ : C_Tree n lo w.heap.size w d cs) (_ : QT n d <= 1048576),
  Calls Tryz.prog 69 #[.agg cs.toArray] w fun e w' => ∃ cs', e = .returned (.agg cs'.toArray) /\ OwnT n (fun b => w.heap.size <= b /\ b < w'.heap.size) w' d cs' /\ Below w.heap.size w w'
theorem JlH (n : Nat) (ih : JjP n) : JjP (n + 1) := by
 intro d cs w lo h hn;obtain ⟨i0, hi, hz0, hz1, hz2⟩ := info_parts (show (Tryz.prog.info? 34).map (fun i => (i.zero, i.size, i.bytes)) = some (some (.agg #[.int .i64 0, .bool false, .int .i64 0, .string ⟨#[]⟩, .slice none 0 0, .slice none 0 0]), 6, 88) from by kernel_rfl);obtain ⟨j0, gi, gz0, gz1, gz2⟩ := info_parts (show (Tryz.prog.info? 9).map (fun i => (i.zero, i.size, i.bytes)) = some (some (.string ⟨#[]⟩), 1, 16) from by kernel_rfl)
 obtain ⟨v4, v5, rfl, a0, a2, a3, a4, a5⟩ := h.out;obtain ⟨A4, c4, rfl⟩ := a4.form;obtain ⟨A5, c5, rfl, hlc, hcc, hA⟩ := a5;rw [V0] at hn;have m4 : d.keys.length <= 1048576 := by have := Jcm ByteArray.size d.keys; omega
 have m5 : d.kids.length <= 1048576 := by have := Jcm (QT n) d.kids; omega
 go_enter Tryz.func69, Tryz.ntmps69
 go_wp2_with (at_builtin; refine WT rfl _ _ 31 rfl (w.heap.size + 3) 9 j0 (.string ⟨#[]⟩) 16 Tryz.underlying31 gi gz0 gz1 gz2 rfl _ 0 [] rfl (JV (by simp) (by simp)) d.keys A4 c4 lo w.heap.size rfl (Sl_Str.keep a4 (by repeat (first | (with_reducible exact Same.refl _ _ _) | ((with_reducible refine Jeg ?_ ?_); focus (simp; (try omega))) | ((with_reducible refine Jgn ?_ ?_); focus (simp; (try omega))) | (with_reducible refine Jg2 ?_ _) | ((with_reducible (apply JiC; assumption)); focus (simp; (try omega))))) (Nat.le_refl _) (Nat.le_refl _)) (by omega) (by omega) (by simp) ?_)
 intro v' w1 hown hgrow hat;have hgs : GrowS (w.heap.size + 3) w1.heap.size w1 d.keys v' := ⟨hown, fun g hg => (hown.lt g hg).2, JiG a4⟩;obtain ⟨B4, b4, rfl⟩ := hgs.form;have hA1 : w1.heap[w.heap.size]? = some (.cells #[.int .i64 d.kind, .bool d.flag, .int .i64 d.num, .string d.text, .slice A4 d.keys.length c4, .slice A5 d.kids.length c5] 34 (0, 0)) := (hgrow.block w.heap.size (by simp; try omega) (by simp [Value.ownBlock]; try omega)).trans ((Below.heap_alloc _ _ _ (by simp; try omega)).trans ((Below.heap_alloc _ _ _ (by simp; try omega)).trans ((Below.heap_alloc _ _ _ (by simp)).trans (heap_alloc_new _ _))))
 have hZ1 : w1.heap[w.heap.size + 1]? = some (.cells #[.int .i64 0, .bool false, .int .i64 0, .string ⟨#[]⟩, .slice none 0 0, .slice none 0 0] 34 (0, 0)) := (hgrow.block (w.heap.size + 1) (by simp; try omega) (by simp [Value.ownBlock]; try omega)).trans ((Below.heap_alloc _ _ _ (by simp; try omega)).trans ((Below.heap_alloc _ _ _ (by simp)).trans (Je (by simp))));have hT1 : w1.heap[w.heap.size + 2]? = some (.cells #[.int .i64 d.kind, .bool d.flag, .int .i64 d.num, .string d.text, .slice A4 d.keys.length c4, .slice A5 d.kids.length c5] 34 (0, 0)) := (hgrow.block (w.heap.size + 2) (by simp; try omega) (by simp [Value.ownBlock]; try omega)).trans ((Below.heap_alloc _ _ _ (by simp)).trans (Je (by simp)))
 have hs1 : w.heap.size + 4 <= w1.heap.size := by have := hgrow.size; simpa using this
 have hb1 : Below w.heap.size w w1 := Below.grown (Jj : Below w.heap.size w _) hgrow (by simp; omega) (fun q hq => by simp [Value.ownBlock] at hq; omega);obtain ⟨t0, t1, t2, t3, t4, t5, tf⟩ := Jf hT1;obtain ⟨y0, y1, y2, y3, y4, y5, yf⟩ := Jf hA1;have HA1 := Lib.hid hA1;have HZ1 := Lib.hid hZ1;have HT1 := Lib.hid hT1;have Hgs := Lib.hid hgs;clear hA1 hZ1 hT1 hgs hgrow hat hown;have hq0 : w.heap.size < w1.heap.size := by omega
 have hq1 : w.heap.size + 1 < w1.heap.size := by omega
 have hq2 : w.heap.size + 2 < w1.heap.size := by omega
 have hq3 : w.heap.size + 1 + 1 < w1.heap.size := by omega
 go_wp2_with fail
 go_loopw [4] (fun i wr => ∃ (k : Nat) (K : Option Addr) (c : Nat), k <= d.kids.length /\ i = .int .i64 k /\ wr.heap[w.heap.size]? = some (.cells #[.int .i64 d.kind, .bool d.flag, .int .i64 d.num, .string d.text, .slice A4 d.keys.length c4, .slice A5 d.kids.length c5] 34 (0, 0)) /\ wr.heap[w.heap.size + 1]? = some (.cells #[.int .i64 0, .bool false, .int .i64 0, .string ⟨#[]⟩, .slice none 0 0, .slice none 0 0] 34 (0, 0)) /\ wr.heap[w.heap.size + 2]? = some (.cells #[.int .i64 d.kind, .bool d.flag, .int .i64 d.num, .string d.text, .slice B4 d.keys.length b4, .slice K k c] 34 (0, 0)) /\
  GrowK n w1.heap.size wr.heap.size wr (d.kids.take k) (.slice K k c) /\ OwnS (fun b => w.heap.size + 3 <= b /\ b < w1.heap.size) wr d.keys (.slice B4 d.keys.length b4) /\ Below w.heap.size w wr /\ w1.heap.size <= wr.heap.size) (fun i _ => d.kids.length - (intOf i).toNat)
 case atStart =>
  refine ⟨0, some ⟨w1.heap.size, 0, none⟩, 0, Nat.zero_le _, rfl, ?_, ?_, ?_, GrowK.empty (by simp) (by simp), Hgs.out.own.carry (fun b hb => (Below.heap_alloc _ _ b (by simp; omega)).trans ((Below.heap_setCell _ _ _ b (by simp; omega)).trans (Below.heap_setCell _ _ _ b (by simp; omega)))) (fun _ h => h), Jj, by simp⟩
  ·exact (Below.heap_alloc _ _ _ (by simp; omega)).trans ((Below.heap_setCell _ _ _ _ (by simp; try omega)).trans ((Below.heap_setCell _ _ _ _ (by simp; try omega)).trans HA1.out))
  ·exact (Below.heap_alloc _ _ _ (by simp; omega)).trans ((Below.heap_setCell _ _ _ _ (by simp; try omega)).trans ((Below.heap_setCell _ _ _ _ (by simp; try omega)).trans HZ1.out))
  exact (Below.heap_alloc _ _ _ (by simp; omega)).trans (heap_setCell_same _ (w.heap.size + 2) 5 _ _ _ (heap_setCell_same _ (w.heap.size + 2) 4 _ _ _ HT1.out))
 case round =>
  clear t0 t1 t2 t3 t4 t5 tf y0 y1 y2 y3 y4 y5 yf;obtain ⟨k, K, c, hk, rfl, hA1, hZ1, hT1, hgk, hks, hbr, hwr⟩ := hrel;obtain ⟨t0, t1, t2, t3, t4, t5, tf⟩ := Jf hT1;obtain ⟨y0, y1, y2, y3, y4, y5, yf⟩ := Jf hA1;have tl := Ja hT1;have yl := Ja hA1;have RA := Lib.hid hA1;have RZ := Lib.hid hZ1;have RT := Lib.hid hT1;have Hks := Lib.hid hks;have Hgk := Lib.hid hgk;have hbs := hbr.size;clear hA1 hZ1 hT1 hks hgk
  by_cases hlt : k < d.kids.length
  ·obtain ⟨b, o, rfl, -, hb2, hcell⟩ := hA (by omega)
   obtain ⟨f, hf⟩ := Jg hlt;obtain ⟨es, -, hcs, hC⟩ := hcell k f hf;have hC' := hC;obtain ⟨eA4, ec4, eA5, ec5, rfl, ea0, ea2, ea3⟩ := hC'.flat;have hc0 := (hbr.cell (p := ⟨b, o + k * 6 + 0, none⟩) (by simp; omega)).trans (hcs 0 (by omega));have hc1 := (hbr.cell (p := ⟨b, o + k * 6 + 1, none⟩) (by simp; omega)).trans (hcs 1 (by omega));have hc2 := (hbr.cell (p := ⟨b, o + k * 6 + 2, none⟩) (by simp; omega)).trans (hcs 2 (by omega))
   have hc3 := (hbr.cell (p := ⟨b, o + k * 6 + 3, none⟩) (by simp; omega)).trans (hcs 3 (by omega));have hc4 := (hbr.cell (p := ⟨b, o + k * 6 + 4, none⟩) (by simp; omega)).trans (hcs 4 (by omega));have hc5 := (hbr.cell (p := ⟨b, o + k * 6 + 5, none⟩) (by simp; omega)).trans (hcs 5 (by omega));simp at hc0 hc1 hc2 hc3 hc4 hc5;have hbl : b < wr.heap.size := Nat.lt_of_lt_of_le hb2 hbr.size;have hnd : QT n f <= 1048576 := by have := Jcm (QT n) d.kids; have := Ql (QT n) d.kids k f hf; have := Yl (QT n) d.kids (k+1); omega
   have Htk := Lib.hid (show d.kids.take (k + 1) = d.kids.take k ++ [f] by rw [List.take_add_one, hf]; rfl);have Hlen := Lib.hid (show (d.kids.take k).length = k by rw [List.length_take]; omega);have hk0 : (0 : Int) <= k := by omega
   have hk1 : (k : Int) < d.kids.length := by omega
   obtain ⟨ess, F, e1, e2, e3, e4, e5, e6, e7⟩ := Hgk.out;obtain ⟨r, hr⟩ : ∃ r, r = (Value.slice K k c).ownBlock := ⟨_, rfl⟩
   have hrl : ∀ q, r = some q -> w1.heap.size <= q := fun q hq => (e3.lt q (by rw [<- hr]; exact hq)).1
   have hn0 : r ≠ some w.heap.size := fun h => by have := hrl _ h; omega
   have hn1 : r ≠ some (w.heap.size + 1) := fun h => by have := hrl _ h; omega
   have hn2 : r ≠ some (w.heap.size + 1 + 1) := fun h => by have := hrl _ h; omega
   have hnb : r ≠ some b := fun h => by have := hrl _ h; omega
   have Hrl := Lib.hid hrl;have Hr := Lib.hid hr;have E := Lib.hid (And.intro e1 (And.intro e2 (And.intro e3 (And.intro e4 (And.intro e5 (And.intro e6 e7))))));clear hcs hcell hA hf hrl hr e1 e2 e3 e4 e5 e6 e7;go_wp2_with fail
   go_region_law (first | (go_simp; go_at_call 69; refine (ih f _ _ lo (hC.now Jj) hnd).mono ?_; rintro e w9 ⟨cs9, rfl, ho9, hb9⟩; obtain ⟨fA4, fc4, fA5, fc5, rfl, fa0, fa2, fa3⟩ := ho9.flat; obtain ⟨-, -, -, -, -, p5, -⟩ := Jf ((hb9.block (w.heap.size + 1 + 1) tl).trans RT.out); have p9 : w.heap.size + 1 + 1 < w9.heap.size := Nat.lt_of_lt_of_le tl hb9.size) | (refine step_append_lies _ rfl _ _ 32 rfl w1.heap.size 34 i0 (.agg #[.int .i64 0, .bool false, .int .i64 0, .string ⟨#[]⟩, .slice none 0 0, .slice none 0 0]) 6 88 Tryz.underlying32 hi hz0 hz1 hz2 rfl (by decide) _ k ess.flatten rfl (Jle E.out.2.2.1 hb9 rfl Hlen.out) ⟨w9.heap.size, 0, none⟩ 1 1 [.int .i64 f.kind, .bool f.flag, .int .i64 f.num, .string f.text, .slice fA4 f.keys.length fc4, .slice fA5 f.kids.length fc5] rfl rfl (World.news_of_block (heap_alloc_new w9 _)) ho9.one (by decide) (by unfold maxLen; omega) (by omega) (by have := hb9.size; simp at this ⊢; omega) _ rfl ?_; intro g cap w2 hown2 hgrow2 hat2 hlt2; have hgrow3 := Ym Hr.out hgrow2; obtain ⟨-, -, -, -, -, q5, qf⟩ := Jf (JgA RT.out hb9 rfl hgrow2 Hr.out hn2)))
   all_goals
    have hs9 : wr.heap.size <= w9.heap.size := hb9.size;have hB9 : Below w.heap.size w w9 := Jj;have hB2 := Below.grown (hB9.alloc (by omega) (.cells #[.int .i64 f.kind, .bool f.flag, .int .i64 f.num, .string f.text, .slice fA4 f.keys.length fc4, .slice fA5 f.kids.length fc5] 34)) hgrow2 (by simp; omega) (fun q hq => by have := Hrl.out q (Hr.out.trans hq); omega)
    have hP := GrowK.push (n := n) (base := w1.heap.size) (hi := wr.heap.size) (w := w9.alloc (.cells #[.int .i64 f.kind, .bool f.flag, .int .i64 f.num, .string f.text, .slice fA4 f.keys.length fc4, .slice fA5 f.kids.length fc5] 34)) (S := fun b => wr.heap.size <= b /\ b < w9.heap.size) k Hlen.out (by simp; omega) (ho9.carry (fun b hb => Below.heap_alloc _ _ b hb.2) (fun b hb => hb)) (fun b hb => by simp; omega) hwr ess F E.out.1 E.out.2.1 E.out.2.2.2.1 E.out.2.2.2.2.1 E.out.2.2.2.2.2.1
     (fun i d' es' h1 h2 => (E.out.2.2.2.2.2.2 i d' es' h1 h2).carry (fun b hb => Jms (E.out.2.2.2.2.1 i b hb).2.1 hb9 rfl) (fun _ h => h)) hown2 hgrow2 (hat2.imp id (fun h => by rw [h]; simp)) hlt2
    have RA2 := JgA RA.out hb9 rfl hgrow2 Hr.out hn0;have RZ2 := JgA RZ.out hb9 rfl hgrow2 Hr.out hn1;have RT2 := JgA RT.out hb9 rfl hgrow2 Hr.out hn2;have KS2 := Hks.out.carry (w' := w2) (fun b hb => Jmr (by omega) hb9 rfl hgrow2 Hr.out (fun h => by have := Hrl.out b h; omega)) (fun _ h => h);have hs2 := hgrow2.size;simp at hs2;clear hgrow2 hgrow3 hown2 hat2;go_wp2_with fail
    go_roundw
    case rel =>
     refine ⟨k + 1, some ⟨g, 0, none⟩, cap, by omega, by go_num, (Below.heap_setCell _ _ _ _ (by simp; try omega)).trans RA2, (Below.heap_setCell _ _ _ _ (by simp; try omega)).trans RZ2, heap_setCell_same w2 (w.heap.size + 1 + 1) 5 _ _ _ RT2, ?_, KS2.carry (fun b hb => Below.heap_setCell _ _ _ b (by simp; omega)) (fun _ h => h), Below.setCell hB2 (by simp; omega) _, by simp; omega⟩;rw [Htk.out]
     exact hP.carry (by simp) (fun q h1 _ => Below.heap_setCell _ _ _ q (by simp; omega))
    case measure => simp [intOf]; omega
  obtain rfl : k = d.kids.length := by omega
  have hgk := Hgk.out;rw [List.take_length] at hgk;have Hg2 := Lib.hid hgk;obtain ⟨z0, z1, z2, z3, z4, z5, zf⟩ := Jf RZ.out;have zl : w.heap.size + 1 < wr.heap.size := Ja RZ.out;clear hA hgk;go_wp2_with fail
  refine bodyPost_ret (v := .agg #[.int .i64 d.kind, .bool d.flag, .int .i64 d.num, .string d.text, .slice B4 d.keys.length b4, .slice K d.kids.length c]) (by simp only [results, Tryz.results69]; go_simp) rfl ⟨[.int .i64 d.kind, .bool d.flag, .int .i64 d.num, .string d.text, .slice B4 d.keys.length b4, .slice K d.kids.length c], rfl, OwnT.into ⟨_, _, fun b => w.heap.size + 3 <= b /\ b < w1.heap.size, fun b => w1.heap.size <= b /\ b < wr.heap.size, rfl, a0, a2, a3, ?_, ?_, Hks.out.carry ?_ (fun _ h => h), Hg2.out.own.keep ?_ (fun _ h => h)⟩, Jj⟩
  ·intro b hb; simp; omega
  ·intro b hb; simp; omega
  rotate_left
  rotate_left
  all_goals
   intro b hb;exact Aside.block (S := fun b => b = w.heap.size + 1) (w := wr) QC b (by omega) (by omega)
theorem Zs : ∀ n, JjP n
 | 0 => fun _ _ _ _ h _ => (C_Tree.none h).elim
 | n + 1 => JlH n (Zs n)
theorem Jjh {css : List (List Value)} {es : List Value} (h : ∀ es ∈ css, es.length = 6) (he : es.length = 6) : ∀ fs ∈ css ++ [es], fs.length = 6 := by
 intro fs hf;rcases List.mem_append.1 hf with hf | hf
 ·exact h fs hf
 rw [List.mem_singleton.1 hf]; exact he
structure MapRows (base : Nat) (w : World) (ks : List ByteArray) (css : List (List Value)) (vk vl : Value) : Prop where
 keys : w.ownsRow base 9 1 vk ks.length (ks.map Value.string)
 kids : w.ownsRow base 34 6 vl css.length css.flatten
 six : ∀ es ∈ css, es.length = 6
 one : ∀ x ∈ css.flatten, x.oneCell' = true
theorem Jk2 {g g5 cap cap5 B : Nat} {w w4 wF : World} {ks : List ByteArray} {vs : List (List Value)} {key : ByteArray} {kc : List Value} {k0 m0 : Int} {f0 : Bool} {t0 : ByteArray} (hlen : vs.length = ks.length) (h6 : ∀ es ∈ vs, es.length = 6) (h1 : ∀ x ∈ vs.flatten, x.oneCell' = true) (hk6 : kc.length = 6) (hk1 : ∀ x ∈ kc, x.oneCell' = true)
  (hw4 : Below w.heap.size w w4) (hF : Aside (fun b => b = w.heap.size ∨ b = w.heap.size + 1 + 1) w4 wF) (hB : w.heap.size + 1 + 1 < B) (hgB : B <= g)
  (KK : w4.ownsRow w.heap.size 9 1 (.slice (some ⟨g, 0, none⟩) (ks.length + 1) cap) (ks.length + 1) (ks.map Value.string ++ [.string key]))
  (KV : w4.ownsRow B 34 6 (.slice (some ⟨g5, 0, none⟩) (ks.length + 1) cap5) (ks.length + 1) (vs.flatten ++ kc)) :
  ∃ vk' vl', Ending.returned (.agg #[.int .i64 k0, .bool f0, .int .i64 m0, .string t0, .slice (some ⟨g, 0, none⟩) (ks.length + 1) cap, .slice (some ⟨g5, 0, none⟩) (ks.length + 1) cap5]) = Ending.returned (.agg #[.int .i64 k0, .bool f0, .int .i64 m0, .string t0, vk', vl']) /\ MapRows w.heap.size wF (ks ++ [key]) (vs ++ [kc]) vk' vl' /\ Below w.heap.size w wF := by
 refine ⟨_, _, rfl, ⟨?_, ?_, Jjh h6 hk6, ?_⟩, hw4.trans (hF.below hw4.size (fun i hi => by omega))⟩
 ·have := Jh KK (fun q hq => by
   simp [Value.ownBlock] at hq;subst hq
   exact hF.block g (KK.lt g rfl).2 (by omega))
  simpa using this
 ·have := Jh (VP KV (show w.heap.size <= B by omega)) (fun q hq => by
   have h3 := KV.lt q hq
   exact hF.block q h3.2 (by omega))
  simp only [List.flatten_append, List.length_append, List.flatten_cons, List.flatten_nil, List.append_nil, List.length_cons, List.length_nil, hlen];exact this
 intro x hx;simp only [List.flatten_append, List.flatten_cons, List.flatten_nil, List.append_nil, List.mem_append] at hx;rcases hx with hx | hx
 ·exact h1 x hx
 exact hk1 x hx
theorem Jmc (ks : List ByteArray) (vs : List (List Value)) (key t : ByteArray) (k0 m0 k m : Int) (f0 f : Bool) (t0 : ByteArray) (B4 B5 : Option Addr) (n4 d4 n5 d5 : Nat) (vk vl : Value) (base : Nat) (w : World) (h : MapRows base w ks vs vk vl) (hlen : vs.length = ks.length) (hks : ∀ x ∈ ks, x.size <= 9223372036854775807) (hlt : ∀ x ∈ ks, JU x key = true) (hk : ks.length <= 1048576) :
  Calls Tryz.prog 193 #[.agg #[.int .i64 k0, .bool f0, .int .i64 m0, .string t0, vk, vl], .string key, .agg #[.int .i64 k, .bool f, .int .i64 m, .string t, .slice B4 n4 d4, .slice B5 n5 d5]] w fun e w' => ∃ vk' vl', e = .returned (.agg #[.int .i64 k0, .bool f0, .int .i64 m0, .string t0, vk', vl']) /\ MapRows w.heap.size w' (ks ++ [key]) (vs ++ [[.int .i64 k, .bool f, .int .i64 m, .string t, .slice B4 n4 d4, .slice B5 n5 d5]]) vk' vl' /\ Below w.heap.size w w' := by
 obtain ⟨i0, hi, hz0, hz1, hz2⟩ := info_parts (show (Tryz.prog.info? 34).map (fun i => (i.zero, i.size, i.bytes)) = some (some (.agg #[.int .i64 0, .bool false, .int .i64 0, .string ⟨#[]⟩, .slice none 0 0, .slice none 0 0]), 6, 88) from by kernel_rfl);obtain ⟨j0, gi, gz0, gz1, gz2⟩ := info_parts (show (Tryz.prog.info? 9).map (fun i => (i.zero, i.size, i.bytes)) = some (some (.string ⟨#[]⟩), 1, 16) from by kernel_rfl)
 obtain ⟨hkeys, hkids, h6, h1⟩ := h;rw [hlen] at hkids;have hS := W7 hkeys hks;obtain ⟨A4, c4, rfl⟩ := JP hkeys;obtain ⟨A5, c5, rfl⟩ := JP hkids;have Hkeys := Lib.hid hkeys;have Hkids := Lib.hid hkids;have H1 := Lib.hid h1;have hlc5 : ks.length <= c5 := Z4 hkids;clear h1;have Hlen := Lib.hid hlen;have Hlt := Lib.hid hlt;obtain ⟨A4', c4', hv, hlc, hcc, hA⟩ := hS;simp only [Value.slice.injEq, true_and] at hv
 obtain ⟨rfl, rfl⟩ := hv;clear hkeys hkids hlen hlt hks;go_enter Tryz.func193, Tryz.ntmps193
 go_wp2_with fail
 go_loopw [7] (fun i wr => ∃ j : Nat, j <= ks.length /\ i = .int .i64 j /\ wr.heap[w.heap.size]? = some (.cells #[.int .i64 k0, .bool f0, .int .i64 m0, .string t0, .slice A4 ks.length c4, .slice A5 ks.length c5] 34 (0, 0)) /\ wr.heap[w.heap.size + 1]? = some (.cells #[.int .i64 k, .bool f, .int .i64 m, .string t, .slice B4 n4 d4, .slice B5 n5 d5] 34 (0, 0)) /\ wr.heap[w.heap.size + 1 + 1]? = some (.cells #[.int .i64 0, .bool false, .int .i64 0, .string ⟨#[]⟩, .slice none 0 0, .slice none 0 0] 34 (0, 0)) /\ Below w.heap.size w wr) (fun i _ => ks.length - (intOf i).toNat)
 case atStart => exact ⟨0, Nat.zero_le _, rfl, (Below.heap_alloc _ _ _ (by simp; omega)).trans ((Below.heap_alloc _ _ _ (by simp)).trans (heap_alloc_new _ _)), (Below.heap_alloc _ _ _ (by simp)).trans (Je (by simp)), Je (by simp), Jj⟩
 case round =>
  obtain ⟨j, hj, rfl, hT, hK, hZ, hbr⟩ := hrel;obtain ⟨x0, x1, x2, x3, x4, x5, xf⟩ := Jf hT;have hl1 := Ja hT;have hl2 := Ja hK;have hl8 := Ja hZ;have HT := Lib.hid hT;have HK := Lib.hid hK;have HZ := Lib.hid hZ;clear hT hK hZ;by_cases hlt : j < ks.length
  ·obtain ⟨b, o, rfl, -, hb2, hcell⟩ := hA (by omega)
   obtain ⟨d, hd⟩ := Jg hlt;obtain ⟨es, -, hcs, rfl, hd2⟩ := hcell j d hd;have hc0 := (hbr.cell (p := ⟨b, o + j * 1 + 0, none⟩) (by simp; omega)).trans (hcs 0 (by omega));simp at hc0;have hbl : b < wr.heap.size := Nat.lt_of_lt_of_le hb2 hbr.size;have hj0 : (0 : Int) <= j := by omega
   have hj1 : (j : Int) < ks.length := by omega
   have hcmp := Hlt.out d (List.mem_of_getElem? hd);unfold JU at hcmp;clear hcs hcell hA hd;go_wp2_with fail
   go_roundw
   case rel => exact ⟨j + 1, by omega, by go_num, HT.out, HK.out, HZ.out, Jj⟩
   case measure => simp [intOf]; omega
  obtain rfl : j = ks.length := by omega
  clear hA;have hK0 : wr.ownsRow base 9 1 (.slice A4 ks.length c4) ks.length (ks.map Value.string) := Jh Hkeys.out (fun q hq => hbr.block q (Hkeys.out.lt q hq).2);obtain ⟨v1, w1, hr1, ho1, hg1, ha1⟩ := Vl (P := Tryz.prog) (wr.alloc (.cells #[] 9)) 31 31 w.heap.size 9 j0 (.string ⟨#[]⟩) 1 16 Tryz.underlying31 gi gz0 gz1 gz2 rfl (by decide) (.slice (some ⟨wr.heap.size, 0, none⟩) 0 0) 0 [] (JV rfl (by omega)) base ks.length (ks.map Value.string) (.slice A4 ks.length c4) (hK0.alloc _) (Uz ks) (by unfold maxLen; omega) (by omega) (by simp; omega)
  rw [Nat.zero_add, List.nil_append] at ho1;obtain ⟨E4, e4, rfl⟩ := JP ho1;obtain ⟨g, cap, w2, hr2, ho2, hg2, ha2, hl3⟩ := run_append_lies (P := Tryz.prog) (w1.alloc (.cells #[.string key] 9)) 31 31 w.heap.size 9 j0 (.string ⟨#[]⟩) 1 16 Tryz.underlying31 gi gz0 gz1 gz2 rfl (by decide) (.slice E4 ks.length e4) ks.length (ks.map Value.string) (ho1.alloc _) ⟨w1.heap.size, 0, none⟩ 1 1 [.string key] rfl (World.news_of_block (Je rfl)) (by intro u hu; simp at hu; subst hu; rfl) (by decide) (by unfold maxLen; omega) (by omega) (by have := hg1.size; simp at this ⊢; omega) _ rfl
  go_wp2_with (at_builtin; first | refine Ji rfl (.tmp 26) (.tmp 30) 31 rfl _ _ _ w1 rfl rfl hr1 ?_ | refine Ji rfl (.tmp 31) (.tmp 33) 31 rfl _ _ _ w2 rfl rfl hr2 ?_)
  have hq1 : ∀ q, (Value.slice E4 ks.length e4).ownBlock = some q -> wr.heap.size <= q := fun q hq => by
   rw [hq] at ha1;simp [Value.ownBlock] at ha1;omega
  have hs1 := hg1.size;have hs2 := hg2.size;simp at hs1 hs2;have hb1 : Below wr.heap.size wr w1 := Below.grown (Jj : Below wr.heap.size wr (wr.alloc (.cells #[] 9))) hg1 (by simp) (fun q hq => by simp [Value.ownBlock] at hq; omega);have hb2 : Below wr.heap.size wr w2 := Below.grown (hb1.alloc hb1.size _) hg2 (by simp; omega) hq1;have HT2 := Lib.hid ((hb2.block _ hl1).trans HT.out);have HK2 := Lib.hid ((hb2.block _ hl2).trans HK.out)
  have HZ2 := Lib.hid ((hb2.block _ hl8).trans HZ.out);have hw2 : Below w.heap.size w w2 := hbr.trans (hb2.mono hbr.size);have Ho2 := Lib.hid ho2
  have hgw : wr.heap.size <= g := by
   rcases ha2 with h | h
   ·exact hq1 g h
   simp at h; omega
  clear x0 x1 x2 x3 x4 x5 xf ho1 ho2 hg1 hg2 ha1 ha2 hr1 hr2 HT HK HZ hq1 hK0 hb1 hb2;obtain ⟨x0, x1, x2, x3, x4, x5, xf⟩ := Jf HT2.out;obtain ⟨y0, y1, y2, y3, y4, y5, yf⟩ := Jf HK2.out;have hl4 := Ja HT2.out;have hl5 := Ja HK2.out;have hl9 := Ja HZ2.out;have hcapK : ks.length + 1 <= cap := Z4 Ho2.out;have hww : wr.heap.size <= w2.heap.size := by omega
  have hone : ∀ x ∈ [Value.int .i64 k, .bool f, .int .i64 m, .string t, .slice B4 n4 d4, .slice B5 n5 d5], x.oneCell' = true := by intro u hu; simp at hu; rcases hu with rfl | rfl | rfl | rfl | rfl | rfl <;> rfl
  go_region_law (first | (refine Ul rfl (.tmp 35) (.tmp 39) 32 rfl w2.heap.size 34 i0 (.agg #[.int .i64 0, .bool false, .int .i64 0, .string ⟨#[]⟩, .slice none 0 0, .slice none 0 0]) 6 88 Tryz.underlying32 hi hz0 hz1 hz2 rfl (by decide) (.slice (some ⟨_, 0, none⟩) 0 0) 0 [] rfl (by first | exact XZ (JV (w := w2) rfl (Nat.le_refl _)) rfl | exact XZ ((JV (w := w2) rfl (Nat.le_refl _)).alloc (.cells #[.int .i64 k, .bool f, .int .i64 m, .string t, .slice B4 n4 d4, .slice B5 n5 d5] 34)) rfl | exact XZ (JV (w := w2.alloc (.cells #[.int .i64 k, .bool f, .int .i64 m, .string t, .slice B4 n4 d4, .slice B5 n5 d5] 34)) (by simp) (by simp)) rfl) base ks.length vs.flatten (.slice A5 ks.length c5) rfl (Jh Hkids.out (fun q hq => Below.block (Jj : Below w.heap.size w _) q (Hkids.out.lt q hq).2)) H1.out (by unfold maxLen; omega) (by omega) (by simp <;> omega) ?_; intro v3 w3 ho3 hg3 ha3; rw [Nat.zero_add, List.nil_append] at ho3; obtain ⟨E5, e5, rfl⟩ := JP ho3; have hb3 : Below w2.heap.size w2 w3 := Below.grown (Jj : Below w2.heap.size w2 _) hg3 (by simp <;> omega) (fun q hq => (by simp [Value.ownBlock] at hq; omega)); obtain ⟨z0, z1, z2, z3, z4, z5, zf⟩ := Jf ((hb3.block _ hl5).trans HK2.out); have hl6 : w.heap.size + 1 < w3.heap.size := Nat.lt_of_lt_of_le hl5 hb3.size) | (refine step_append_lies _ rfl (.tmp 40) (.tmp 42) 32 rfl w2.heap.size 34 i0 (.agg #[.int .i64 0, .bool false, .int .i64 0, .string ⟨#[]⟩, .slice none 0 0, .slice none 0 0]) 6 88 Tryz.underlying32 hi hz0 hz1 hz2 rfl (by decide) (.slice E5 ks.length e5) ks.length vs.flatten rfl (by first | exact ho3 | exact ho3.alloc _) _ 1 1 [.int .i64 k, .bool f, .int .i64 m, .string t, .slice B4 n4 d4, .slice B5 n5 d5] rfl rfl (by first | exact World.news_of_block (heap_alloc_new _ _) | exact World.news_of_block ((hg3.block _ (by simp <;> omega) (by simp [Value.ownBlock] <;> omega)).trans (Je (by simp))) | exact World.news_of_block ((hg3.block _ (by simp <;> omega) (by simp [Value.ownBlock] <;> omega)).trans ((Below.heap_alloc _ _ _ (by simp)).trans (Je (by simp))))) hone (by decide) (by unfold maxLen; omega) (by omega) (by have := hb3.size; simp; omega) _ rfl ?_; intro g5 cap5 w4 ho5 hg5 ha5 hl7))
  all_goals
   have hq5 : ∀ q, (Value.slice E5 ks.length e5).ownBlock = some q -> w2.heap.size <= q := fun q hq => by
    rw [hq] at ha3;simp [Value.ownBlock] at ha3;omega
   have hb4 : Below w2.heap.size w2 w4 := Below.grown (Jj : Below w2.heap.size w2 _) hg5 (by have := hb3.size; first | omega | (simp; omega)) hq5;have HT4 := Lib.hid ((hb4.block _ hl4).trans HT2.out);have HZ4 := Lib.hid ((hb4.block _ hl9).trans HZ2.out);have Ho4 := Lib.hid ho5;have Hk4 := Lib.hid (Jh Ho2.out (fun q hq => hb4.block q (Ho2.out.lt q hq).2));have hcapV : ks.length + 1 <= cap5 := Z4 ho5
   have hw4 : Below w.heap.size w w4 := hw2.trans (hb4.mono hw2.size)
   have hg5w : w2.heap.size <= g5 := by
    rcases ha5 with h | h
    ·exact hq5 g5 h
    have := hb3.size
    (try simp at h)
    omega
   clear x0 x1 x2 x3 x4 x5 xf y0 y1 y2 y3 y4 y5 yf z0 z1 z2 z3 z4 z5 zf ho3 ho5 hg3 hg5 ha3 ha5 hb3;obtain ⟨x0, x1, x2, x3, x4, x5, xf⟩ := Jf HT4.out;obtain ⟨y0, y1, y2, y3, y4, y5, yf⟩ := Jf HZ4.out;have hl10 := Ja HT4.out;have hl11 := Ja HZ4.out;go_wp2_with (at_builtin; first | refine Ji rfl (.tmp 44) (.tmp 48) 31 rfl _ _ _ _ rfl rfl (Up _ _ _ 9 j0 Tryz.underlying31 gi ⟨g, 0, none⟩ (ks.length + 1) cap hcapK _ _) ?_ | refine Ji rfl (.tmp 51) (.tmp 55) 32 rfl _ _ _ _ rfl rfl (Up _ _ _ 34 i0 Tryz.underlying32 hi ⟨g5, 0, none⟩ (ks.length + 1) cap5 hcapV _ _) ?_)
   all_goals
    refine bodyPost_ret (v := .agg #[.int .i64 k0, .bool f0, .int .i64 m0, .string t0, .slice (some ⟨g, 0, none⟩) (ks.length + 1) cap, .slice (some ⟨g5, 0, none⟩) (ks.length + 1) cap5]) (by simp only [results, Tryz.results193]; go_simp) rfl (Jk2 (B := wr.heap.size) Hlen.out h6 H1.out rfl hone hw4 QC hl8 hgw Hk4.out (VP Ho4.out hww))
theorem Jfv {w : World} {base : Nat} {e : TypeId} {size g n c : Nat} {xs : List Value} (h : w.ownsRow base e size (.slice (some ⟨g, 0, none⟩) n c) n xs) (i : Nat) (hi : i <= n) : w.ownsRow base e size (.slice (some ⟨g, 0, none⟩) i c) i (xs.take (i * size)) := by
 obtain ⟨cur, hg, hn, hcm, hcs, ht, hb⟩ := JaX h;have hm := Nat.mul_le_mul_right size hi;refine ⟨by rw [List.length_take, h.1]; omega, .inr ⟨g, c, cur, rfl, hb, hg, by omega, hcm, hcs, ?_⟩⟩;rw [<- ht, List.take_take, Nat.min_eq_left hm]
theorem JfA {w : World} {base : Nat} {e : TypeId} {size g n c : Nat} {xs : List Value} (h : w.ownsRow base e size (.slice (some ⟨g, 0, none⟩) n c) n xs) (i : Nat) : ∀ j u, (xs.drop (i * size))[j]? = some u -> w.cell? ((⟨g, i * size, none⟩ : Addr).add j) = some u := by
 intro j u hu;obtain ⟨cur, hg, hn, hcm, hcs, ht, hb⟩ := JaX h;rw [List.getElem?_drop, <- ht, List.getElem?_take] at hu;rw [Yu, cell_of_row w g _ cur _ _ hg];split at hu
 ·simpa using hu
 cases hu
theorem JeC {w : World} {base : Nat} {e : TypeId} {size n : Nat} {v : Value} {xs : List Value} (h : w.ownsRow base e size v n xs) (hn : 0 < n) : ∃ g c, v = .slice (some ⟨g, 0, none⟩) n c := by
 rcases h.2 with ⟨-, h0⟩ | ⟨g, cap, cur, rfl, -⟩
 ·omega
 exact ⟨g, cap, rfl⟩
theorem JjY (ks : List ByteArray) (i : Nat) : ((ks.map Value.string).drop (i * 1)).length = (ks.length - i) * 1 := by simp
theorem Jjj {g g5 cap cap5 i n B : Nat} {w w4 wF : World} {ks : List ByteArray} {vs : List (List Value)} {key : ByteArray} {kc : List Value} {k0 m0 : Int} {f0 : Bool} {t0 : ByteArray} (hn : ks.length = n) (hlen : vs.length = n) (hi : i < n) (h6 : ∀ es ∈ vs, es.length = 6) (h1 : ∀ x ∈ vs.flatten, x.oneCell' = true) (hk6 : kc.length = 6) (hk1 : ∀ x ∈ kc, x.oneCell' = true)
  (hw4 : Below w.heap.size w w4) (hF : Aside (fun b => b = w.heap.size ∨ b = w.heap.size + 1 + 1) w4 wF) (hB : w.heap.size + 1 + 1 < B) (hgB : B <= g) (hgB5 : B <= g5)
  (KK : w4.ownsRow w.heap.size 9 1 (.slice (some ⟨g, 0, none⟩) (n + 1) cap) (n + 1) ((ks.take i).map Value.string ++ [.string key] ++ (ks.map Value.string).drop (i * 1)))
  (KV : w4.ownsRow w.heap.size 34 6 (.slice (some ⟨g5, 0, none⟩) (n + 1) cap5) (n + 1) (vs.flatten.take (i * 6) ++ kc ++ vs.flatten.drop (i * 6))) :
  ∃ vk' vl', Ending.returned (.agg #[.int .i64 k0, .bool f0, .int .i64 m0, .string t0, .slice (some ⟨g, 0, none⟩) (n + 1) cap, .slice (some ⟨g5, 0, none⟩) (n + 1) cap5]) = Ending.returned (.agg #[.int .i64 k0, .bool f0, .int .i64 m0, .string t0, vk', vl']) /\ MapRows w.heap.size wF (J3 ks i key) (J3 vs i kc) vk' vl' /\ Below w.heap.size w wF := by
 have KK' := Jh KK (fun q hq => by
   simp [Value.ownBlock] at hq;subst hq
   exact hF.block g (KK.lt g rfl).2 (by omega))
 have KV' := Jh KV (fun q hq => by
   simp [Value.ownBlock] at hq;subst hq
   exact hF.block g5 (KV.lt g5 rfl).2 (by omega))
 refine ⟨_, _, rfl, ⟨?_, ?_, ?_, ?_⟩, hw4.trans (hF.below hw4.size (fun i hi => by omega))⟩
 ·rw [QY (by omega), hn, Jhn, Jbc, <- List.map_take]
  rw [Nat.mul_one] at KK';exact KK'
 ·rw [QY (by omega), hlen, JbF vs i kc h6]
  exact KV'
 ·intro es hes
  rcases JaS hes with rfl | hes
  ·exact hk6
  exact h6 es hes
 intro x hx;rw [JbF vs i kc h6] at hx;rcases List.mem_append.1 hx with hx | hx
 ·rcases List.mem_append.1 hx with hx | hx
  ·exact h1 x (List.mem_of_mem_take hx)
  exact hk1 x hx
 exact h1 x (List.mem_of_mem_drop hx)
theorem Jl2 (ks : List ByteArray) (vs : List (List Value)) (key t : ByteArray) (k0 m0 k m : Int) (f0 f : Bool) (t0 : ByteArray) (B4 B5 : Option Addr) (n4 d4 n5 d5 : Nat) (vk vl : Value) (base i n : Nat) (w : World) (h : MapRows base w ks vs vk vl) (hn : ks.length = n) (hlen : vs.length = n) (hks : ∀ x ∈ ks, x.size <= 9223372036854775807) (hi : i < n)
  (hlt : ∀ j d, j < i -> ks[j]? = some d -> JU d key = true) (hge : ∀ d, ks[i]? = some d -> JU d key = false) (hk : n <= 1048576) :
  Calls Tryz.prog 193 #[.agg #[.int .i64 k0, .bool f0, .int .i64 m0, .string t0, vk, vl], .string key, .agg #[.int .i64 k, .bool f, .int .i64 m, .string t, .slice B4 n4 d4, .slice B5 n5 d5]] w fun e w' => ∃ vk' vl', e = .returned (.agg #[.int .i64 k0, .bool f0, .int .i64 m0, .string t0, vk', vl']) /\ MapRows w.heap.size w' (J3 ks i key) (J3 vs i [.int .i64 k, .bool f, .int .i64 m, .string t, .slice B4 n4 d4, .slice B5 n5 d5]) vk' vl' /\ Below w.heap.size w w' := by
 obtain ⟨i0, gt, hz0, hz1, hz2⟩ := info_parts (show (Tryz.prog.info? 34).map (fun i => (i.zero, i.size, i.bytes)) = some (some (.agg #[.int .i64 0, .bool false, .int .i64 0, .string ⟨#[]⟩, .slice none 0 0, .slice none 0 0]), 6, 88) from by kernel_rfl);obtain ⟨j0, gi, gz0, gz1, gz2⟩ := info_parts (show (Tryz.prog.info? 9).map (fun i => (i.zero, i.size, i.bytes)) = some (some (.string ⟨#[]⟩), 1, 16) from by kernel_rfl)
 obtain ⟨hkeys, hkids, h6, h1⟩ := h;rw [hlen] at hkids;have hS := W7 hkeys hks;rw [hn] at hkeys;obtain ⟨gk, c4, rfl⟩ := JeC hkeys (by omega);obtain ⟨gl, c5, rfl⟩ := JeC hkids (by omega);have Hkeys := Lib.hid hkeys;have Hkids := Lib.hid hkids;have H1 := Lib.hid h1;have hlc5 : n <= c5 := Z4 hkids;clear h1;have Hlen := Lib.hid hlen;have Hn := Lib.hid hn;have Hlt := Lib.hid hlt;have Hge := Lib.hid hge
 obtain ⟨A4', c4', hv, hlc, hcc, hA⟩ := hS;rw [hn] at hv hlc hA;simp only [Value.slice.injEq, true_and] at hv;obtain ⟨rfl, rfl⟩ := hv;clear hkeys hkids hlen hlt hge hks hn;go_enter Tryz.func193, Tryz.ntmps193
 go_wp2_with fail
 go_loopw [7] (fun v wr => ∃ j : Nat, j <= i /\ v = .int .i64 j /\ wr.heap[w.heap.size]? = some (.cells #[.int .i64 k0, .bool f0, .int .i64 m0, .string t0, .slice (some ⟨gk, 0, none⟩) n c4, .slice (some ⟨gl, 0, none⟩) n c5] 34 (0, 0)) /\ wr.heap[w.heap.size + 1]? = some (.cells #[.int .i64 k, .bool f, .int .i64 m, .string t, .slice B4 n4 d4, .slice B5 n5 d5] 34 (0, 0)) /\ wr.heap[w.heap.size + 1 + 1]? = some (.cells #[.int .i64 0, .bool false, .int .i64 0, .string ⟨#[]⟩, .slice none 0 0, .slice none 0 0] 34 (0, 0)) /\ Below w.heap.size w wr) (fun v _ => i - (intOf v).toNat)
 case atStart => exact ⟨0, Nat.zero_le _, rfl, (Below.heap_alloc _ _ _ (by simp; omega)).trans ((Below.heap_alloc _ _ _ (by simp)).trans (heap_alloc_new _ _)), (Below.heap_alloc _ _ _ (by simp)).trans (Je (by simp)), Je (by simp), Jj⟩
 case round =>
  obtain ⟨j, hj, rfl, hT, hK, hZ, hbr⟩ := hrel;obtain ⟨x0, x1, x2, x3, x4, x5, xf⟩ := Jf hT;have hl1 := Ja hT;have hl2 := Ja hK;have hl8 := Ja hZ;have HT := Lib.hid hT;have HK := Lib.hid hK;have HZ := Lib.hid hZ;clear hT hK hZ;have hjn : j < n := by omega
  have hj0 : (0 : Int) <= j := by omega
  have hj1 : (j : Int) < n := by omega
  obtain ⟨b, o, hbo, -, hb2, hcell⟩ := hA (by omega);simp only [Option.some.injEq, Addr.mk.injEq, and_true] at hbo;obtain ⟨rfl, rfl⟩ := hbo;have hbl : gk < wr.heap.size := Nat.lt_of_lt_of_le hb2 hbr.size;obtain ⟨d, hd⟩ := Jg (l := ks) (k := j) (by rw [Hn.out]; exact hjn);obtain ⟨es, -, hcs, rfl, hd2⟩ := hcell j d hd;have hc0 := (hbr.cell (p := ⟨gk, 0 + j * 1 + 0, none⟩) (by simp; omega)).trans (hcs 0 (by omega))
  simp at hc0;by_cases hlt : j < i
  ·have hcmp := Hlt.out j d hlt hd
   unfold JU at hcmp;clear hcs hcell hA hd;go_wp2_with fail
   go_roundw
   case rel => exact ⟨j + 1, by omega, by go_num, HT.out, HK.out, HZ.out, Jj⟩
   case measure => simp [intOf]; omega
  obtain rfl : j = i := by omega
  have hcmp := Hge.out d hd;unfold JU at hcmp;clear hcs hcell hA hd;have hjc4 : (j : Int) <= c4 := by omega
  have hjc5 : (j : Int) <= c5 := by omega
  have htn : ((j : Int)).toNat = j := by omega
  have hK0 : wr.ownsRow base 9 1 (.slice (some ⟨gk, 0, none⟩) n c4) n (ks.map Value.string) := Jh Hkeys.out (fun q hq => hbr.block q (Hkeys.out.lt q hq).2);have hkt : (ks.map Value.string).take (j * 1) = (ks.take j).map Value.string := by rw [Nat.mul_one, List.map_take]
  have hto := Jfv hK0 j (by omega);rw [hkt] at hto;obtain ⟨v1, w1, hr1, ho1, hg1, ha1⟩ := Vl (P := Tryz.prog) (wr.alloc (.cells #[] 9)) 31 31 w.heap.size 9 j0 (.string ⟨#[]⟩) 1 16 Tryz.underlying31 gi gz0 gz1 gz2 rfl (by decide) (.slice (some ⟨wr.heap.size, 0, none⟩) 0 0) 0 [] (JV rfl (by omega)) base j ((ks.take j).map Value.string) (.slice (some ⟨gk, 0, none⟩) j c4) (hto.alloc _) (Uz _) (by unfold maxLen; omega) (by omega) (by simp; omega)
  rw [Nat.zero_add, List.nil_append] at ho1;obtain ⟨E4, e4, rfl⟩ := JP ho1;obtain ⟨g, cap, w2, hr2, ho2, hg2, ha2, hl3⟩ := run_append_lies (P := Tryz.prog) (w1.alloc (.cells #[.string key] 9)) 31 31 w.heap.size 9 j0 (.string ⟨#[]⟩) 1 16 Tryz.underlying31 gi gz0 gz1 gz2 rfl (by decide) (.slice E4 j e4) j ((ks.take j).map Value.string) (ho1.alloc _) ⟨w1.heap.size, 0, none⟩ 1 1 [.string key] rfl (World.news_of_block (Je rfl)) (by intro u hu; simp at hu; subst hu; rfl) (by decide) (by unfold maxLen; omega) (by omega) (by have := hg1.size; simp at this ⊢; omega) _ rfl
  clear hto hkt;go_upto_region 5 with (at_builtin; first | refine Ji rfl (.tmp 26) (.tmp 30) 31 rfl _ _ _ w1 rfl rfl hr1 ?_ | refine Ji rfl (.tmp 31) (.tmp 33) 31 rfl _ _ _ w2 rfl rfl hr2 ?_)
  have hq1 : ∀ q, (Value.slice E4 j e4).ownBlock = some q -> wr.heap.size <= q := fun q hq => by
   rw [hq] at ha1;simp [Value.ownBlock] at ha1;omega
  have hs1 := hg1.size;have hs2 := hg2.size;simp at hs1 hs2;have hb1 : Below wr.heap.size wr w1 := Below.grown (Jj : Below wr.heap.size wr (wr.alloc (.cells #[] 9))) hg1 (by simp) (fun q hq => by simp [Value.ownBlock] at hq; omega);have hb2 : Below wr.heap.size wr w2 := Below.grown (hb1.alloc hb1.size _) hg2 (by simp; omega) hq1;have HT2 := Lib.hid ((hb2.block _ hl1).trans HT.out);have HK2 := Lib.hid ((hb2.block _ hl2).trans HK.out)
  have HZ2 := Lib.hid ((hb2.block _ hl8).trans HZ.out);have hw2 : Below w.heap.size w w2 := hbr.trans (hb2.mono hbr.size);have Ho2 := Lib.hid ho2
  have hgw : wr.heap.size <= g := by
   rcases ha2 with h | h
   ·exact hq1 g h
   simp at h; omega
  clear x0 x1 x2 x3 x4 x5 xf ho1 ho2 hg1 hg2 ha1 ha2 hr1 hr2 HT HK HZ hq1 hK0 hb1 hb2 hc0;obtain ⟨x0, x1, x2, x3, x4, x5, xf⟩ := Jf HT2.out;obtain ⟨y0, y1, y2, y3, y4, y5, yf⟩ := Jf HK2.out;have hl4 := Ja HT2.out;have hl5 := Ja HK2.out;have hl9 := Ja HZ2.out;have hcapK : j + 1 <= cap := Z4 Ho2.out;have hww : wr.heap.size <= w2.heap.size := by omega
  have hone : ∀ x ∈ ([.int .i64 k, .bool f, .int .i64 m, .string t, .slice B4 n4 d4, .slice B5 n5 d5] : List Value), x.oneCell' = true := by intro u hu; simp at hu; rcases hu with rfl | rfl | rfl | rfl | rfl | rfl <;> rfl
  have h1t : ∀ x ∈ vs.flatten.take (j * 6), x.oneCell' = true := fun x hx => H1.out x (List.mem_of_mem_take hx)
  go_cut [9] from 35 to 43 (fun s9 wx => ∃ (g5 cap5 : Nat), s9 = .slice (some ⟨g5, 0, none⟩) (j + 1) cap5 /\ w2.heap.size <= g5 /\ wx.ownsRow w2.heap.size 34 6 (.slice (some ⟨g5, 0, none⟩) (j + 1) cap5) (j + 1) (vs.flatten.take (j * 6) ++ [.int .i64 k, .bool f, .int .i64 m, .string t, .slice B4 n4 d4, .slice B5 n5 d5]) /\ Below w2.heap.size w2 wx)
  case first =>
   go_region_law (first | (refine Ul rfl (.tmp 35) (.tmp 39) 32 rfl w2.heap.size 34 i0 (.agg #[.int .i64 0, .bool false, .int .i64 0, .string ⟨#[]⟩, .slice none 0 0, .slice none 0 0]) 6 88 Tryz.underlying32 gt hz0 hz1 hz2 rfl (by decide) (.slice (some ⟨_, 0, none⟩) 0 0) 0 [] rfl (by first | exact XZ (JV (w := w2) rfl (Nat.le_refl _)) rfl | exact XZ ((JV (w := w2) rfl (Nat.le_refl _)).alloc (.cells #[.int .i64 k, .bool f, .int .i64 m, .string t, .slice B4 n4 d4, .slice B5 n5 d5] 34)) rfl | exact XZ (JV (w := w2.alloc (.cells #[.int .i64 k, .bool f, .int .i64 m, .string t, .slice B4 n4 d4, .slice B5 n5 d5] 34)) (by simp) (by simp)) rfl) base j (vs.flatten.take (j * 6)) (.slice (some ⟨gl, 0, none⟩) j c5) rfl (Jfv (Jh Hkids.out (fun q hq => Below.block (Jj : Below w.heap.size w _) q (Hkids.out.lt q hq).2)) j (by omega)) h1t (by unfold maxLen; omega) (by omega) (by simp <;> omega) ?_; intro v3 w3 ho3 hg3 ha3; rw [Nat.zero_add, List.nil_append] at ho3; obtain ⟨E5, e5, rfl⟩ := JP ho3; have hb3 : Below w2.heap.size w2 w3 := Below.grown (Jj : Below w2.heap.size w2 _) hg3 (by simp <;> omega) (fun q hq => (by simp [Value.ownBlock] at hq; omega)); obtain ⟨z0, z1, z2, z3, z4, z5, zf⟩ := Jf ((hb3.block _ hl5).trans HK2.out); have hl6 : w.heap.size + 1 < w3.heap.size := Nat.lt_of_lt_of_le hl5 hb3.size) | (refine step_append_lies _ rfl (.tmp 40) (.tmp 42) 32 rfl w2.heap.size 34 i0 (.agg #[.int .i64 0, .bool false, .int .i64 0, .string ⟨#[]⟩, .slice none 0 0, .slice none 0 0]) 6 88 Tryz.underlying32 gt hz0 hz1 hz2 rfl (by decide) (.slice E5 j e5) j (vs.flatten.take (j * 6)) rfl (by first | exact ho3 | exact ho3.alloc _) _ 1 1 [.int .i64 k, .bool f, .int .i64 m, .string t, .slice B4 n4 d4, .slice B5 n5 d5] rfl rfl (by first | exact World.news_of_block (heap_alloc_new _ _) | exact World.news_of_block ((hg3.block _ (by simp <;> omega) (by simp [Value.ownBlock] <;> omega)).trans (Je (by simp))) | exact World.news_of_block ((hg3.block _ (by simp <;> omega) (by simp [Value.ownBlock] <;> omega)).trans ((Below.heap_alloc _ _ _ (by simp)).trans (Je (by simp))))) hone (by decide) (by unfold maxLen; omega) (by omega) (by have := hb3.size; simp; omega) _ rfl ?_; intro g5 cap5 w4 ho5 hg5 ha5 hl7))
   all_goals
    have hq5 : ∀ q, (Value.slice E5 j e5).ownBlock = some q -> w2.heap.size <= q := fun q hq => by
     rw [hq] at ha3;simp [Value.ownBlock] at ha3;omega
    have hb4 : Below w2.heap.size w2 w4 := Below.grown (Jj : Below w2.heap.size w2 _) hg5 (by have := hb3.size; first | omega | (simp; omega)) hq5
    have hg5w : w2.heap.size <= g5 := by
     rcases ha5 with h | h
     ·exact hq5 g5 h
     have := hb3.size
     (try simp at h)
     omega
    go_wp2_with fail
    go_meet
    exact ⟨g5, cap5, rfl, hg5w, ho5, hb4⟩
  case rest =>
   obtain ⟨g5, cap5, rfl, hg5w, ho5, hb4⟩ := hcut;clear x0 x1 x2 x3 x4 x5 xf y0 y1 y2 y3 y4 y5 yf;have HT4 := Lib.hid ((hb4.block _ hl4).trans HT2.out);have HZ4 := Lib.hid ((hb4.block _ hl9).trans HZ2.out);have Ho4 := Lib.hid ho5;have Hk4 := Lib.hid (Jh Ho2.out (fun q hq => hb4.block q (Ho2.out.lt q hq).2));have hw4 : Below w.heap.size w wc := hw2.trans (hb4.mono hw2.size);clear ho5;obtain ⟨x0, x1, x2, x3, x4, x5, xf⟩ := Jf HT4.out
   have hl10 := Ja HT4.out;have hl11 := Ja HZ4.out;have hjj : j + 1 + (n - j) = n + 1 := by omega
   have hKsrc : wc.ownsRow base 9 1 (.slice (some ⟨gk, 0, none⟩) n c4) n (ks.map Value.string) := Jh Hkeys.out (fun q hq => hw4.block q (Hkeys.out.lt q hq).2);obtain ⟨g6, cap6, w5, hr6, ho6, hg6, ha6, hl6'⟩ := run_append_lies (P := Tryz.prog) wc 31 31 w.heap.size 9 j0 (.string ⟨#[]⟩) 1 16 Tryz.underlying31 gi gz0 gz1 gz2 rfl (by decide) (.slice (some ⟨g, 0, none⟩) (j + 1) cap) (j + 1) ((ks.take j).map Value.string ++ [.string key]) Hk4.out ⟨gk, j * 1, none⟩ (n - j) (c4 - j) ((ks.map Value.string).drop (j * 1)) ((JjY ks j).trans (by rw [Hn.out])) (JfA hKsrc j) (fun x hx => Uz ks x (List.mem_of_mem_drop hx)) (by omega) (by unfold maxLen; omega) (by omega) hw4.size _ rfl
   rw [hjj] at hr6 ho6;rw [Nat.mul_one] at hr6;have hgwr : w.heap.size < g := by omega
   have hg6g : wr.heap.size <= g6 := by
    rcases ha6 with h | h
    ·simp [Value.ownBlock] at h; omega
    have := hb4.size; omega
   have hne : ∀ q, q < wr.heap.size -> some q ≠ (Value.slice (some ⟨g, 0, none⟩) (j + 1) cap).ownBlock := fun q hq e => by simp [Value.ownBlock] at e; omega
   have HT5 := Lib.hid ((hg6.block _ hl10 (hne _ hl1)).trans HT4.out);have HZ5 := Lib.hid ((hg6.block _ hl11 (hne _ hl8)).trans HZ4.out);have hw5 : Below w.heap.size w w5 := Below.grown hw4 hg6 hw4.size (fun q hq => by simp [Value.ownBlock] at hq; omega);have Hv5 := Lib.hid (Jh Ho4.out (fun q hq => hg6.block q (Ho4.out.lt q hq).2 (fun e => VV Ho4.out Hk4.out (by decide) q hq e.symm)))
   have Ho6 := Lib.hid ho6;have hs5 := hg6.size;have hs4 := hb4.size;clear hKsrc ho6 hg6 ha6 hne hl6' hjj;obtain ⟨y0, y1, y2, y3, y4, y5, yf⟩ := Jf HT5.out;have hl14 := Ja HT5.out;have Hr6 := Lib.hid hr6;go_upto_region 7 with (at_builtin; refine Ji rfl (.tmp 44) (.tmp 48) 31 rfl _ _ _ w5 rfl rfl Hr6.out ?_)
   obtain ⟨W6, hW6⟩ : ∃ W6, W6 = w5.setCell ⟨w.heap.size, 4, none⟩ (.slice (some ⟨g6, 0, none⟩) (n + 1) cap6) := ⟨_, rfl⟩
   rw [<- hW6];have hA6 : Aside (fun b => b = w.heap.size) w5 W6 := by rw [hW6]; exact Aside.setCell (Aside.refl _ _) rfl
   have hw6 : Below w.heap.size w W6 := hw5.trans (hA6.below hw5.size (fun i hi => by omega));have HT6 := Lib.hid (show W6.heap[w.heap.size]? = some (.cells #[.int .i64 k0, .bool f0, .int .i64 m0, .string t0, .slice (some ⟨g6, 0, none⟩) (n + 1) cap6, .slice (some ⟨gl, 0, none⟩) n c5] 34 (0, 0)) by rw [hW6]; exact heap_setCell_same _ _ 4 _ _ _ HT5.out);have HZ6 := Lib.hid ((hA6.block _ (Ja HZ5.out) (by omega)).trans HZ5.out)
   have hVsrc : W6.ownsRow base 34 6 (.slice (some ⟨gl, 0, none⟩) n c5) n vs.flatten := Jh Hkids.out (fun q hq => hw6.block q (Hkids.out.lt q hq).2);have Hv6 := Jh Hv5.out (fun q hq => hA6.block q (Hv5.out.lt q hq).2 (by have := (Hv5.out.lt q hq).1; omega));have Hk6 := Jh Ho6.out (fun q hq => hA6.block q (Ho6.out.lt q hq).2 (by simp [Value.ownBlock] at hq; omega))
   have hs6 := hA6.size;obtain ⟨g7, cap7, w7, hr7, ho7, hg7, ha7, hl7'⟩ := run_append_lies (P := Tryz.prog) W6 32 32 w2.heap.size 34 i0 (.agg #[.int .i64 0, .bool false, .int .i64 0, .string ⟨#[]⟩, .slice none 0 0, .slice none 0 0]) 6 88 Tryz.underlying32 gt hz0 hz1 hz2 rfl (by decide) (.slice (some ⟨g5, 0, none⟩) (j + 1) cap5) (j + 1) (vs.flatten.take (j * 6) ++ [.int .i64 k, .bool f, .int .i64 m, .string t, .slice B4 n4 d4, .slice B5 n5 d5]) Hv6 ⟨gl, j * 6, none⟩ (n - j) (c5 - j) (vs.flatten.drop (j * 6)) (by rw [List.length_drop, Hkids.out.1]; omega) (JfA hVsrc j) (fun x hx => H1.out x (List.mem_of_mem_drop hx)) (by omega) (by unfold maxLen; omega) (by omega) (by omega) _ rfl
   rw [show j + 1 + (n - j) = n + 1 by omega] at hr7 ho7
   have hg7g : w2.heap.size <= g7 := by
    rcases ha7 with h | h
    ·simp [Value.ownBlock] at h; omega
    omega
   have hne7 : ∀ q, q < w2.heap.size -> some q ≠ (Value.slice (some ⟨g5, 0, none⟩) (j + 1) cap5).ownBlock := fun q hq e => by simp [Value.ownBlock] at e; omega
   have HT7 := Lib.hid ((hg7.block _ (Ja HT6.out) (hne7 _ hl4)).trans HT6.out);have HZ7 := Lib.hid ((hg7.block _ (Ja HZ6.out) (hne7 _ hl9)).trans HZ6.out);have hw7 : Below w.heap.size w w7 := Below.grown hw6 hg7 hw6.size (fun q hq => by simp [Value.ownBlock] at hq; omega);have Hk7 := Lib.hid (Jh Hk6 (fun q hq => hg7.block q (Hk6.lt q hq).2 (fun e => VV Hv6 Hk6 (by decide) q e.symm hq)))
   have Ho7 := Lib.hid (VP ho7 (show w.heap.size <= w2.heap.size by omega));have Hr7 := Lib.hid hr7;clear x0 x1 x2 x3 x4 x5 xf y0 y1 y2 y3 y4 y5 yf hr6 hr7 hW6 hVsrc Hv6 Hk6 ho7 hg7 ha7 hne7 hl7' hA6 hw6;obtain ⟨y0, y1, y2, y3, y4, y5, yf⟩ := Jf HT6.out;have hl15 := Ja HT6.out;obtain ⟨x0, x1, x2, x3, x4, x5, xf⟩ := Jf HT7.out;obtain ⟨u0', u1', u2', u3', u4', u5', uf'⟩ := Jf HZ7.out
   have hl16 := Ja HT7.out;have hl17 := Ja HZ7.out;go_wp2_with (at_builtin; refine Ji rfl (.tmp 51) (.tmp 55) 32 rfl _ _ _ w7 rfl rfl Hr7.out ?_)
   refine bodyPost_ret (v := .agg #[.int .i64 k0, .bool f0, .int .i64 m0, .string t0, .slice (some ⟨g6, 0, none⟩) (n + 1) cap6, .slice (some ⟨g7, 0, none⟩) (n + 1) cap7]) (by simp only [results, Tryz.results193]; go_simp) rfl ?_;exact (Jjj (B := wr.heap.size) Hn.out Hlen.out hi h6 H1.out rfl (by intro u hu; simp at hu; rcases hu with rfl | rfl | rfl | rfl | rfl | rfl <;> rfl) hw7 QC hl8 hg6g (by omega) Hk7.out Ho7.out)
theorem MapG.fresh {nT base hi i : Nat} {w0 w2 : World} {ks : List ByteArray} {l : List TreeD} {vk vl vk' vl' : Value} {ess : List (List Value)} {F : Nat -> Nat -> Prop} {S : Nat -> Prop} {t : TreeD} {es : List Value} {key : ByteArray} (h : MapG nT base hi w0 ks l vk vl ess F) (hbh : base <= hi) (hhi : hi <= w0.heap.size) (hi2 : i <= l.length)
  (ht : OwnT nT S w0 t es) (hS : ∀ b, S b -> hi <= b /\ b < w0.heap.size) (hkey : key.size <= 9223372036854775807)
  (hB : Below w0.heap.size w0 w2) (hM : MapRows w0.heap.size w2 (J3 ks i key) (J3 ess i es) vk' vl') :
  MapG nT base w2.heap.size w2 (J3 ks i key) (J3 l i t) vk' vl' (J3 ess i es) (fun j b => if j < i then F j b else if j = i then S b else F (j - 1) b) := by
 have hlen := h.len;have hsz := hB.size;have hgk : ∀ g, vk'.ownBlock = some g -> w0.heap.size <= g := fun g hg => (hM.keys.lt g hg).1
 have hgl : ∀ g, vl'.ownBlock = some g -> w0.heap.size <= g := fun g hg => (hM.kids.lt g hg).1
 have hkeep : ∀ b, b < w0.heap.size -> w2.heap[b]? = w0.heap[b]? := fun b hb => hB.block b hb
 have hFS : ∀ j b, F j b -> ¬ S b := fun j b hF hs => by have := (h.part j b hF).2.1; have := (hS b hs).1; omega
 have hl1 : (J3 ess i es).length = (J3 l i t).length := by rw [QY (by omega), QY hi2, hlen]
 refine ⟨hl1, hM.six, VP hM.keys (by omega), hl1 ▸ VP hM.kids (by omega), fun g hg => (hM.keys.lt g hg).2, fun g hg => (hM.kids.lt g hg).2, ?_, ?_, ?_, ?_⟩
 ·have hnew : ∀ b, base <= b -> b < w0.heap.size -> base <= b /\ b < w2.heap.size /\ vk'.ownBlock ≠ some b /\ vl'.ownBlock ≠ some b := fun b h1 h2 =>
   ⟨h1, by omega, fun e => by have := hgk b e; omega, fun e => by have := hgl b e; omega⟩
  intro j b hF;by_cases c1 : j < i
  ·rw [if_pos c1] at hF
   obtain ⟨f1, f2, f3, f4⟩ := h.part j b hF;exact hnew b f1 (by omega)
  rw [if_neg c1] at hF;by_cases c2 : j = i
  ·rw [if_pos c2] at hF
   obtain ⟨f1, f2⟩ := hS b hF;exact hnew b (by omega) f2
  rw [if_neg c2] at hF;obtain ⟨f1, f2, f3, f4⟩ := h.part (j - 1) b hF;exact hnew b f1 (by omega)
 ·intro j k b hF hG
  have key : ∀ j k, (if j < i then F j b else if j = i then S b else F (j - 1) b) -> (if k < i then F k b else if k = i then S b else F (k - 1) b) -> j <= k -> j = k := by
   intro j k hF hG hjk;by_cases c1 : j < i
   ·rw [if_pos c1] at hF
    by_cases c2 : k < i
    ·rw [if_pos c2] at hG
     exact h.apart j k b hF hG
    rw [if_neg c2] at hG;by_cases c3 : k = i
    ·rw [if_pos c3] at hG
     exact absurd hG (hFS j b hF)
    rw [if_neg c3] at hG;have := h.apart j (k - 1) b hF hG;omega
   rw [if_neg c1] at hF;by_cases c3 : j = i
   ·rw [if_pos c3] at hF
    by_cases c4 : k = i
    ·omega
    rw [if_neg (by omega), if_neg c4] at hG;exact absurd hF (hFS (k - 1) b hG)
   rw [if_neg c3] at hF;rw [if_neg (by omega), if_neg (by omega)] at hG;have := h.apart (j - 1) (k - 1) b hF hG;omega
  rcases Nat.le_total j k with hjk | hjk
  ·exact key j k hF hG hjk
  exact (key k j hG hF hjk).symm
 ·intro j d' es' hd hes
  rw [Ja0 hi2] at hd;rw [Ja0 (by omega)] at hes;by_cases c1 : j < i
  ·rw [if_pos c1] at hd hes
   refine (h.own j d' es' hd hes).carry (fun b hF => ?_) (fun b hF => by rw [if_pos c1]; exact hF);obtain ⟨f1, f2, f3, f4⟩ := h.part j b hF;exact hkeep b (by omega)
  rw [if_neg c1] at hd hes;by_cases c2 : j = i
  ·rw [if_pos c2] at hd hes
   obtain rfl := Option.some.inj hd;obtain rfl := Option.some.inj hes;exact ht.carry (fun b hs => hkeep b (hS b hs).2) (fun b hF => by rw [if_neg c1, if_pos c2]; exact hF)
  rw [if_neg c2] at hd hes;refine (h.own (j - 1) d' es' hd hes).carry (fun b hF => ?_) (fun b hF => by rw [if_neg c1, if_neg c2]; exact hF);obtain ⟨f1, f2, f3, f4⟩ := h.part (j - 1) b hF;exact hkeep b (by omega)
 intro s hs;rcases JaS hs with rfl | hs
 ·exact hkey
 exact h.size s hs
theorem MapG.rows {nT base hi : Nat} {w : World} {ks : List ByteArray} {l : List TreeD} {vk vl : Value} {ess : List (List Value)} {F : Nat -> Nat -> Prop} (h : MapG nT base hi w ks l vk vl ess F) : MapRows base w ks ess vk vl :=
 ⟨h.keys, h.len ▸ h.kids, h.six, h.one⟩
theorem Jhl {D : Type} (l : List D) (n : Nat) (x : D) (h : l.length = n) : J3 l n x = l ++ [x] := by
 unfold J3;rw [List.take_of_length_le (by omega), List.drop_of_length_le (by omega)]
theorem Jl4 {ks : List ByteArray} {vs : List (List Value)} {key t : ByteArray} {k0 m0 k m : Int} {f0 f : Bool} {t0 : ByteArray} {B4 B5 : Option Addr} {n4 d4 n5 d5 : Nat} {vk vl : Value} {base i : Nat} {w : World} (h : MapRows base w ks vs vk vl) (hlen : vs.length = ks.length) (hks : ∀ x ∈ ks, x.size <= 9223372036854775807) (hk : ks.length <= 1048576) (hi : i = Qy ks key) (hso : Q4 ks) :
  Calls Tryz.prog 193 #[.agg #[.int .i64 k0, .bool f0, .int .i64 m0, .string t0, vk, vl], .string key, .agg #[.int .i64 k, .bool f, .int .i64 m, .string t, .slice B4 n4 d4, .slice B5 n5 d5]] w fun e w' => ∃ vk' vl', e = .returned (.agg #[.int .i64 k0, .bool f0, .int .i64 m0, .string t0, vk', vl']) /\ MapRows w.heap.size w' (J3 ks i key) (J3 vs i [.int .i64 k, .bool f, .int .i64 m, .string t, .slice B4 n4 d4, .slice B5 n5 d5]) vk' vl' /\ Below w.heap.size w w' := by
 have hle := Ua ks key;by_cases hlt : i < ks.length
 ·exact Jl2 ks vs key t k0 m0 k m f0 f t0 B4 B5 n4 d4 n5 d5 vk vl base i ks.length w h rfl hlen hks hlt (fun j d hj hd => Wk (hi ▸ hj) hd) (fun d hd => Jb5 hso (Nat.le_of_eq hi.symm) hd) hk
 have he : ks.length = i := by omega
 have := Jmc ks vs key t k0 m0 k m f0 f t0 B4 B5 n4 d4 n5 d5 vk vl base w h hlen hks (fun x hx => by
  obtain ⟨j, hj⟩ := List.getElem?_of_mem hx
  exact Wk (by have := (List.getElem?_eq_some_iff.1 hj).1; omega) hj) hk
 rw [Jhl ks i key he, Jhl vs i _ (by omega)];exact this
theorem JeO : (⟨#[57, 50, 50, 51, 51, 55, 50, 48, 51, 54, 56, 53, 52, 55, 55, 53, 56, 48, 56]⟩ : ByteArray).toList = [57, 50, 50, 51, 51, 55, 50, 48, 51, 54, 56, 53, 52, 55, 55, 53, 56, 48, 56] := by simp [ByteArray.toList_eq]
theorem JbY {s : ByteArray} {a e : Nat} {neg : Bool} (he : e = Qg s a) (has : a <= s.size) (h : ¬ (e = a ∨ (Jb s a = 48 /\ a + 1 < e) ∨ (e < s.size /\ (Jb s e = 46 ∨ Jb s e = 101 ∨ Jb s e = 69)))) :
  (neg = true /\ s.extract a e = ⟨#[57, 50, 50, 51, 51, 55, 50, 48, 51, 54, 56, 53, 52, 55, 55, 53, 56, 48, 56]⟩ /\ VC s neg a = (-9223372036854775808, (e : Int))) ∨
  ((neg = false ∨ s.extract a e ≠ ⟨#[57, 50, 50, 51, 51, 55, 50, 48, 51, 54, 56, 53, 52, 55, 55, 53, 56, 48, 56]⟩) /\
   ((∃ u : Nat, u <= 9223372036854775807 /\ readI (s.extract a e) = some u /\ VC s neg a = (if neg = true then -(u : Int) else u, (e : Int))) ∨ (readI (s.extract a e) = none /\ VC s neg a = (0, -1)))) := by
 subst he;have hae := U9 s a;have hes := hae.2 has;have hne : a < Qg s a := by have := hae.1; have := not_or.1 h; omega
 have hf : ∀ t, a <= t -> t < Qg s a -> ZA (Jb s t) = true := fun t h1 h2 => (XW h1 h2).1
 have hz : ¬ (Jb s a = 48 /\ a + 1 < Qg s a) := fun hh => h (.inr (.inl hh))
 have hmin := JlI hne hes hf hz;have hr := JgP hne hes hf hz;unfold VC;rw [if_neg h];cases neg with
 | true =>
  rw [if_pos rfl];by_cases hm : UX s a (Qg s a) = 9223372036854775808
  ·exact .inl ⟨rfl, hmin.2 hm, by rw [hm, if_pos (by decide)]; rfl⟩
  refine .inr ⟨.inr (fun hh => hm (hmin.1 hh)), ?_⟩;by_cases hv : UX s a (Qg s a) <= 9223372036854775807
  ·rw [if_pos hv] at hr
   exact .inl ⟨_, hv, hr, by rw [if_pos (by omega)]; rfl⟩
  rw [if_neg hv] at hr;exact .inr ⟨hr, by rw [if_neg (by omega)]⟩
 | false =>
  rw [if_neg (by decide)];refine .inr ⟨.inl rfl, ?_⟩;by_cases hv : UX s a (Qg s a) <= 9223372036854775807
  ·rw [if_pos hv] at hr
   exact .inl ⟨_, hv, hr, by rw [if_pos hv]; rfl⟩
  rw [if_neg hv] at hr;exact .inr ⟨hr, by rw [if_neg hv]⟩
theorem X4 (s : ByteArray) (i : Nat) (w : World) (hs : s.size <= 1048576) (hi : i <= 1048576) :
  Calls Tryz.prog 194 #[.string s, .int .i64 i] w fun e w' => e = .returned (.tuple #[.int .i64 (JF s i).1, .int .i64 (JF s i).2]) /\ Below w.heap.size w w' := by
 by_cases hlt : (i : Int) < s.size
 ·have hii : i < s.size := by omega
  have h0 : Q6 (i : Int) 0 ((s.size : Int) - 1) = true := JmG (by omega);have hz0 : (0 : Int) <= i := by omega
  obtain ⟨b, hb⟩ : ∃ b : Nat, b = (s.get! i).toNat := ⟨_, rfl⟩
  have hx : (s[i]'hii).toNat = b := by rw [hb]; exact JA s i hii
  have hby : Jb s i = b := by unfold Jb; rw [hb]
  obtain ⟨a, ha⟩ : ∃ a, a = if Jb s i = 45 then i + 1 else i := ⟨_, rfl⟩
  obtain ⟨neg, hneg⟩ : ∃ neg : Bool, neg = decide (Jb s i = 45) := ⟨_, rfl⟩
  have hWB : JF s i = VC s neg a := by rw [hneg]; exact ZR hii ha
  have hnb : ((b : Int) == 45) = neg := by rw [hneg, hby]; rw [Bool.eq_iff_iff]; simp
  have hcs : (neg = true /\ (i : Int) + 1 = a) ∨ (neg = false /\ a = i) := by
   by_cases h45 : Jb s i = 45
   ·rw [if_pos h45] at ha; exact .inl ⟨by rw [hneg]; exact JmG h45, by omega⟩
   rw [if_neg h45] at ha; exact .inr ⟨by rw [hneg]; exact JmF h45, ha⟩
  have HWB := hid hWB;have HCs := hid hcs;have hia : i <= a /\ a <= i + 1 := by rw [ha]; split <;> omega
  obtain ⟨e0, he0⟩ : ∃ e0, e0 = Qg s a := ⟨_, rfl⟩
  have hE0 := U9 s a;rw [<- he0] at hE0;have hae : a <= e0 := hE0.1;have hes : e0 <= s.size := hE0.2 (by omega);have HE0 := hid he0;obtain ⟨hia1, hia2⟩ := hia;clear hb hby ha he0 hE0 hneg hWB hcs;go_enter Tryz.func194, Tryz.ntmps194
  go_upto_if 23 with (first | (go_at_call 115; refine (Jo _ _ _ _).mono ?_; rintro e w' ⟨rfl, rfl⟩))
  go_cut [7] from 23 to 25 (fun s7 wx => s7 = .int .i64 a /\ wx = w)
  case first =>
   rcases HCs.out with ⟨rfl, haa⟩ | ⟨rfl, haa⟩
   ·go_wp2_with fail
    go_meet
    exact ⟨rfl, rfl⟩
   have HAA := hid haa;clear haa;go_wp2_with fail
   go_meet
   exact ⟨by rw [HAA.out], rfl⟩
  case rest =>
   obtain ⟨rfl, rfl⟩ := hcut;go_upto_block 0 with fail
   go_cut [8] from 27 to 44 (fun s8 wx => s8 = .int .i64 e0 /\ wx = wc)
   case first =>
    go_wp2_with fail
    go_loopw [8] (fun s8 wr => ∃ j : Nat, a <= j /\ j <= e0 /\ s8 = .int .i64 j /\ Qg s j = e0 /\ wr = wc) (fun s8 _ => s.size - (intOf s8).toNat)
    case atStart => exact ⟨a, Nat.le_refl _, hae, rfl, HE0.out.symm, rfl⟩
    case round =>
     obtain ⟨j, haj, hje, rfl, hdj, rfl⟩ := hrel;have HJ := hid hdj;clear hdj;by_cases hjl : (j : Int) < s.size
     ·have hjj : j < s.size := by omega
      have hj0 : (0 : Int) <= j := by omega
      obtain ⟨c, hc⟩ : ∃ c : Nat, c = (s.get! j).toNat := ⟨_, rfl⟩
      have hxj : (s[j]'hjj).toNat = c := by rw [hc]; exact JA s j hjj
      have hbj : Jb s j = c := by unfold Jb; rw [hc]
      have HC := hid hbj;have HD := hid (HJ.out.symm.trans (JaZ hjj));clear hc hbj;by_cases f1 : (48 : Int) <= c
      focus
       by_cases f2 : (c : Int) <= 57
       ·have HF := hid (show Qg s (j + 1) = e0 by have h9 := HD.out; rw [HC.out, if_pos (by unfold ZA; rw [JmG f1, JmG f2]; rfl)] at h9; exact h9.symm)
        have hle := (U9 s (j + 1)).1;rw [HF.out] at hle;go_wp2_with fail
        go_roundw
        case rel => exact ⟨j + 1, by omega, hle, by go_num, HF.out, by first | rfl | exact True.intro⟩
        case measure => simp [intOf]; omega
       have HF := hid (show e0 = j by have h9 := HD.out; rw [HC.out, if_neg (by unfold ZA; rw [JmF f2, Bool.and_false]; decide)] at h9; exact h9);have d2 : decide ((c : Int) <= 57) = false := JmF f2;have d3 : decide (c <= 57) = false := JmF (by omega);clear f2
      rotate_left
      focus
       have HF := hid (show e0 = j by have h9 := HD.out; rw [HC.out, if_neg (by unfold ZA; rw [JmF f1, Bool.false_and]; decide)] at h9; exact h9);have d2 : decide ((48 : Int) <= c) = false := JmF f1;have d3 : decide (48 <= c) = false := JmF (by omega);clear f1
      rotate_left
      all_goals
       go_wp2_with fail
       go_meet
       exact ⟨by rw [HF.out], rfl⟩
     have HF := hid (show e0 = j by rw [<- HJ.out]; exact JbI (by omega));go_wp2_with fail
     go_meet
     exact ⟨by rw [HF.out], rfl⟩
   case rest =>
    obtain ⟨rfl, rfl⟩ := hcut;obtain ⟨F, hF⟩ : ∃ F, F = s.extract a e0 := ⟨_, rfl⟩
    have hFs : F.size = e0 - a := by rw [hF, ByteArray.size_extract]; omega
    have HF := hid hF;have hFe : s.extract a e0 = F := hF.symm;have haeI : (a : Int) <= e0 := by omega
    have hesI : (e0 : Int) <= s.size := by omega
    clear hF;by_cases c1 : e0 = a
    ·have HQ := hid (show JF s i = (0, -1) from HWB.out.trans (YN (.inl (by rw [<- HE0.out]; omega))))
     have hm1 := JdP (s := F) (by omega);clear c1;go_wp2_with fail
     go_ret2
     exact ⟨by rw [HQ.out]; rfl, Below.refl _ _⟩
    have hm1 := toList_some (s := F) (by omega);have hlt2 : a < e0 := by omega
    have ham : a < s.size := by omega
    have hFp : 0 < F.size := by omega
    have hFpI : (0 : Int) < F.size := by omega
    obtain ⟨ca, hca⟩ : ∃ c : Nat, c = (s.get! a).toNat := ⟨_, rfl⟩
    have hx0 : (F[0]'hFp).toNat = ca := by
     have h9 := VI s a e0 0 hes (by omega);rw [hca, JA F 0 hFp]
     have h8 : F.data.toList[0]? = some (F.get! 0) := by
      have h7 : 0 < F.data.toList.length := by rw [Array.length_toList]; exact hFp
      rw [List.getElem?_eq_getElem h7, Array.getElem_toList];show some (F.data[0]) = some (F.data[0]!)
      rw [getElem!_pos F.data 0 hFp]
     rw [HF.out] at h8 ⊢;rw [h9] at h8;injection h8 with h8
     rw [<- h8];rfl
    have HCa := hid (show Jb s a = ca by unfold Jb; rw [hca]);have hFsI : (F.size : Int) = e0 - a := by omega
    have HFs := hid hFsI;clear hca c1 hFsI;obtain ⟨fz, hfz⟩ : ∃ fz : Nat, fz = F.size := ⟨_, rfl⟩
    by_cases c2 : ca = 48 /\ a + 1 < e0
    ·have HQ := hid (show JF s i = (0, -1) from HWB.out.trans (YN (.inr (.inl ⟨by rw [HCa.out]; omega, by rw [<- HE0.out]; omega⟩))))
     obtain ⟨rfl, c22⟩ := c2;have hf1 : (1 : Int) < F.size := by omega
     clear hFs hfz;go_wp2_with fail
     go_ret2
     exact ⟨by rw [HQ.out]; rfl, Below.refl _ _⟩
    have tail : ∀ P : Prop, (decide (1 < F.size) = false -> decide ((1 : Int) < F.size) = false -> P) -> ((1 : Int) < F.size -> ((ca : Int) == 48) = false -> P) -> P := by
     intro P k1 k2;by_cases c : 1 < F.size
     ·exact k2 (by omega) (JmH (fun h => c2 ⟨by omega, by omega⟩))
     exact k1 (JmF c) (JmF (by omega))
    have HC2 := hid c2;have HFz := hid hFs;clear c2 hFs hfz;by_cases c3 : (e0 : Int) < s.size
    focus
     have hej : e0 < s.size := by omega
     have he0 : (0 : Int) <= e0 := by omega
     obtain ⟨ce, hce⟩ : ∃ c : Nat, c = (s.get! e0).toNat := ⟨_, rfl⟩
     have hxe : (s[e0]'hej).toNat = ce := by rw [hce]; exact JA s e0 hej
     have HCe := hid (show Jb s e0 = ce by unfold Jb; rw [hce]);clear hce;by_cases c4 : ce = 46 ∨ ce = 101 ∨ ce = 69
     ·have HQ := hid (show JF s i = (0, -1) from HWB.out.trans (YN (.inr (.inr ⟨by rw [<- HE0.out]; exact hej, by rw [<- HE0.out, HCe.out]; omega⟩))))
      rcases c4 with rfl | rfl | rfl
      all_goals
       refine tail _ (fun t1 t2 => ?_) (fun t1 t2 => ?_)
       all_goals
        clear tail;go_wp2_with fail
        all_goals
         go_ret2
         exact ⟨by rw [HQ.out]; rfl, Below.refl _ _⟩
     have hRE := hid (JbY (s := s) (a := a) (e := e0) (neg := neg) HE0.out (by omega) (by
      rw [HCa.out, HCe.out];rintro (h | h | h)
      ·omega
      ·exact HC2.out ⟨by omega, h.2⟩
      omega))
     have g1 : ((ce : Int) == 46) = false := JmH (by omega);have g2 : ((ce : Int) == 101) = false := JmH (by omega);have g3 : ((ce : Int) == 69) = false := JmH (by omega);clear c4
    rotate_left
    focus
     have heq : e0 = s.size := by omega
     have hRE := hid (JbY (s := s) (a := a) (e := e0) (neg := neg) HE0.out (by omega) (by
      rw [HCa.out];rintro (h | h | h)
      ·omega
      ·exact HC2.out ⟨by omega, h.2⟩
      omega))
     have hsz3 : decide ((e0 : Int) < s.size) = false := JmF c3;have hsz4 : decide (e0 < s.size) = false := JmF (by omega);clear heq c3
    rotate_left
    all_goals
     refine tail _ (fun t1 t2 => ?_) (fun t1 t2 => ?_)
     all_goals
      clear tail;rcases hRE.out with ⟨rfl, hl, hv⟩ | ⟨hl, hr⟩
      ·have HQ := hid (HWB.out.trans hv)
       rw [hFe] at hl;have hl1 := Je4 hl;have hl2 : (F.toList == [57, 50, 50, 51, 51, 55, 50, 48, 51, 54, 56, 53, 52, 55, 55, 53, 56, 48, 56]) = true := by rw [hl, JeO]; rfl
       clear hl hv hRE;go_wp2_with fail
       go_ret2
       exact ⟨by rw [HQ.out]; rfl, Below.refl _ _⟩
      rw [hFe] at hl hr
      have htest : (neg && (F.toList == [57, 50, 50, 51, 51, 55, 50, 48, 51, 54, 56, 53, 52, 55, 55, 53, 56, 48, 56])) = false := by
       rcases hl with rfl | h
       ·rfl
       rw [<- JeO, JhV h, Bool.and_false]
      have HTe := hid htest
      have two : ∀ P : Prop, (neg = false -> P) -> (neg = true -> (F.toList == [57, 50, 50, 51, 51, 55, 50, 48, 51, 54, 56, 53, 52, 55, 55, 53, 56, 48, 56]) = false -> P) -> P := by
       intro P k1 k2;rcases hn : neg with _ | _
       ·exact k1 hn
       refine k2 hn ?_;have h9 := HTe.out;rw [hn, Bool.true_and] at h9;exact h9
      clear htest hl hRE;rcases hr with ⟨u, hu, hr, hv⟩ | ⟨hr, hv⟩
      focus
       have HQ := hid (HWB.out.trans hv);have HRd := hid (JcO hr);have huI : (u : Int) <= 9223372036854775807 := by omega
       have hu0 : (0 : Int) <= u := by omega
      rotate_left
      focus
       have HQ := hid (HWB.out.trans hv);have HRd := hid (YI hr)
      rotate_left
      all_goals
       clear hr hv;refine two _ (fun n1 => ?_) (fun n1 n2 => ?_)
       all_goals
        clear two;subst n1;go_wp2_with fail
        refine (Jbb F _ (by have := HFz.out; omega)).mono ?_;rintro e w9 ⟨rfl, hb9⟩;rw [HRd.out.1, HRd.out.2];go_wp2_with fail
        go_ret2
        exact ⟨by rw [HQ.out]; rfl, Jj⟩
 have HQ := hid (show JF s i = (0, -1) by unfold JF; rw [if_neg (by omega)]);have h0 : Q6 (i : Int) 0 ((s.size : Int) - 1) = false := JmF (by omega);go_enter Tryz.func194, Tryz.ntmps194
 go_wp2_with (first | (go_at_call 115; refine (Jo _ _ _ _).mono ?_; rintro e w' ⟨rfl, rfl⟩))
 go_ret2
 exact ⟨by rw [HQ.out]; rfl, Below.refl _ _⟩
end Go.Proofs.YtohcpifekcehjaaGreatDoor
