/- Steps to FnIndentedNormal. No conditions. -/
import Derived.Lib.AtoiAllCases
import Derived.Test.YtohcpifekcehjaaGreatDoorKfni3
import Derived.Lib.MapLaws
import Derived.Deep.CutRange
import Derived.Deep.CutBlock
import Derived.Deep.RegionLaw
import Derived.Test.YtohcpifekcehjaaGreatDoorKfni1
import Derived.Test.YtohcpifekcehjaaGreatDoorKfni2
set_option maxHeartbeats 16000000
set_option maxRecDepth 20000
namespace Go.Proofs.YtohcpifekcehjaaGreatDoor
open Go.RowKit Go.Lib
def Yr (c : UInt8) : Prop := 48 <= c.toNat /\ c.toNat <= 57
def QW (acc : Nat) (l : List UInt8) : Nat := l.foldl (fun a c => a * 10 + (c.toNat - 48)) acc
theorem Yo (acc : Nat) : QW acc [] = acc := by unfold QW; rw [List.foldl_nil]
theorem V2 (acc : Nat) (c : UInt8) (r : List UInt8) : QW acc (c :: r) = QW (acc * 10 + (c.toNat - 48)) r := by unfold QW; rw [List.foldl_cons]
theorem Jd6 (l : List UInt8) (acc : Nat) : acc <= QW acc l := by
 induction l generalizing acc with
 | nil => rw [Yo]; exact Nat.le_refl _
 | cons c r ih =>
  have := ih (acc * 10 + (c.toNat - 48));rw [V2];omega
theorem XA (l m : List UInt8) (acc : Nat) : QW acc (l ++ m) = QW (QW acc l) m := by unfold QW; rw [List.foldl_append]
theorem Jbp (l : List UInt8) (acc : Nat) (hd : ∀ c ∈ l, Yr c) (h : acc < 18446744073709551616) : parseUint10 acc l = if QW acc l < 18446744073709551616 then .ok (QW acc l) else .range := by
 induction l generalizing acc with
 | nil => rw [Yo, if_pos h, parseUint10]
 | cons c r ih =>
  have hc := hd c (by simp);unfold Yr at hc;have hge := Jd6 r (acc * 10 + (c.toNat - 48));rw [V2, parseUint10, if_pos hc];by_cases h1 : 1844674407370955162 <= acc
  ·rw [if_pos h1, if_neg (by omega)]
  rw [if_neg h1];by_cases h2 : 18446744073709551616 <= acc * 10 + (c.toNat - 48)
  ·rw [if_pos h2, if_neg (by omega)]
  rw [if_neg h2];exact ih _ (fun x hx => hd x (by simp [hx])) (by omega)
theorem V5 {d : Nat} (h : d < 10) : (UInt8.ofNat (48 + d)).toNat = 48 + d := by
 rw [UInt8.toNat_ofNat'];omega
theorem ZU (u : Nat) : ∀ c ∈ decDigits u, Yr c := by
 induction u using Nat.strongRecOn with
 | ind u ih =>
  intro c hc;rw [decDigits] at hc;by_cases h : u < 10
  ·rw [dif_pos h] at hc
   rw [List.mem_singleton] at hc;subst hc;unfold Yr;rw [V5 h];omega
  rw [dif_neg h] at hc;rcases List.mem_append.1 hc with hc | hc
  ·exact ih (u / 10) (by omega) c hc
  rw [List.mem_singleton] at hc;subst hc;unfold Yr;rw [V5 (Nat.mod_lt _ (by decide))];omega
theorem JaY (u : Nat) : QW 0 (decDigits u) = u := by
 induction u using Nat.strongRecOn with
 | ind u ih =>
  rw [decDigits];by_cases h : u < 10
  ·rw [dif_pos h]
   rw [V2, Yo, V5 h];omega
  rw [dif_neg h, XA, ih (u / 10) (by omega)];rw [V2, Yo, V5 (Nat.mod_lt _ (by decide))];omega
theorem Jlm {c : UInt8} {r : List UInt8} (h : Yr c) (h0 : c.toNat ≠ 48) : 1 <= QW 0 (c :: r) := by
 have := Jd6 r (0 * 10 + (c.toNat - 48));unfold Yr at h;rw [V2];omega
theorem X9 : ∀ (n : Nat) (l : List UInt8), l.length = n -> l ≠ [] -> (∀ c ∈ l, Yr c) -> (∀ c r, l = c :: r -> r ≠ [] -> c.toNat ≠ 48) -> decDigits (QW 0 l) = l
 | 0, l, hn, h0, _, _ => absurd (List.eq_nil_of_length_eq_zero hn) h0
 | n + 1, l, hn, h0, hd, hz => by
  have hl := List.dropLast_concat_getLast h0;obtain ⟨r, hr⟩ : ∃ r, r = l.dropLast := ⟨_, rfl⟩
  obtain ⟨c, hc⟩ : ∃ c, c = l.getLast h0 := ⟨_, rfl⟩
  rw [<- hr, <- hc] at hl;subst hl;clear hr hc;have hcf := hd c (by simp);unfold Yr at hcf;rw [XA, V2, Yo]
  have hback : UInt8.ofNat (48 + (c.toNat - 48)) = c := by
   apply UInt8.toNat_inj.1;rw [V5 (by omega)];omega
  rcases r with _ | ⟨x, r⟩
  ·rw [Yo, decDigits, dif_pos (by omega)]
   simp only [List.nil_append];rw [show 0 * 10 + (c.toNat - 48) = c.toNat - 48 by omega, hback]
  have hx := hz x (r ++ [c]) rfl (by simp);have hp := Jlm (r := r) (hd x (by simp)) hx
  have ih := X9 n (x :: r) (by simp at hn ⊢; omega) (by simp) (fun y hy => hd y (by simp at hy ⊢; rcases hy with h | h; exact .inl h; exact .inr (.inl h))) (fun y q e hq => by
   simp only [List.cons.injEq] at e;obtain ⟨rfl, rfl⟩ := e
   exact hx)
  obtain ⟨v, hv⟩ : ∃ v, v = QW 0 (x :: r) := ⟨_, rfl⟩
  rw [<- hv] at ih hp ⊢;rw [decDigits, dif_neg (by omega), show (v * 10 + (c.toNat - 48)) / 10 = v by omega, show (v * 10 + (c.toNat - 48)) % 10 = c.toNat - 48 by omega, ih, hback]
def readI (s : ByteArray) : Option Nat := if QW 0 s.data.toList <= 9223372036854775807 /\ decDigits (QW 0 s.data.toList) = s.data.toList then some (QW 0 s.data.toList) else none
theorem XP (u : Nat) : Qv (u : Int) = ⟨(decDigits u).toArray⟩ := by
 unfold Qv itoa;rw [if_neg (by omega)];rfl
theorem Jc6 (u : Nat) : (Qv (u : Int)).data.toList = decDigits u := by rw [XP]
theorem WV {s : ByteArray} {u : Nat} (h : readI s = some u) : u <= 9223372036854775807 /\ Qv (u : Int) = s /\ s.data.toList = decDigits u := by
 unfold readI at h;split at h
 ·rename_i hc
  injection h with h
  subst h;exact ⟨hc.1, by rw [XP, hc.2], hc.2.symm⟩
 cases h
theorem Jfo {s : ByteArray} {u : Nat} (hu : u <= 9223372036854775807) (h : Qv (u : Int) = s) : readI s = some u := by
 subst h;unfold readI;rw [Jc6, JaY, if_pos ⟨hu, rfl⟩]
theorem Jgl {s : ByteArray} {u : Nat} (h : readI s = some u) : ∀ c ∈ s.data.toList, Yr c := by
 rw [(WV h).2.2];exact ZU u
theorem JiH {s : ByteArray} {u : Nat} (h : readI s = some u) : s.size <= 19 /\ 0 < s.size := by
 obtain ⟨h1, h2, h3⟩ := WV h;have h4 := JaU 18 u (by omega);have h5 : s.size = s.data.toList.length := by rw [Array.length_toList]; rfl
 rw [h5, h3];refine ⟨by omega, ?_⟩;have := nDigits_pos u;rw [decDigits_length];omega
def ZA (x : Int) : Bool := decide (48 <= x) && decide (x <= 57)
def Xo (s : ByteArray) : Nat -> Nat -> Nat
 | 0, j => j
 | k + 1, j => if j < s.size then (if ZA (Jb s j) = true then Xo s k (j + 1) else j) else j
theorem Jds (s : ByteArray) : ∀ (k l j : Nat), s.size - j <= k -> s.size - j <= l -> Xo s k j = Xo s l j
 | 0, 0, _, _, _ => rfl
 | 0, l + 1, j, h, _ => by unfold Xo; rw [if_neg (by omega)]
 | k + 1, 0, j, _, h => by unfold Xo; rw [if_neg (by omega)]
 | k + 1, l + 1, j, h1, h2 => by
  unfold Xo;split
  ·split
   ·exact Jds s k l _ (by omega) (by omega)
   rfl
  rfl
def Qg (s : ByteArray) (j : Nat) : Nat := Xo s (s.size - j) j
theorem JbI {s : ByteArray} {j : Nat} (h : ¬ j < s.size) : Qg s j = j := by
 unfold Qg;rw [show s.size - j = 0 by omega];rfl
theorem JaZ {s : ByteArray} {j : Nat} (h : j < s.size) : Qg s j = if ZA (Jb s j) = true then Qg s (j + 1) else j := by
 unfold Qg;obtain ⟨k, hk⟩ : ∃ k, s.size - j = k + 1 := ⟨s.size - j - 1, by omega⟩
 rw [hk, Xo, if_pos h];split
 ·exact Jds s _ _ _ (by omega) (by omega)
 rfl
theorem JhF (s : ByteArray) : ∀ (k j : Nat), j <= Xo s k j /\ (j <= s.size -> Xo s k j <= s.size)
 | 0, _ => ⟨Nat.le_refl _, fun h => h⟩
 | k + 1, j => by
  unfold Xo;split
  ·split
   ·have := JhF s k (j + 1)
    omega
   omega
  omega
theorem U9 (s : ByteArray) (j : Nat) : j <= Qg s j /\ (j <= s.size -> Qg s j <= s.size) := JhF s _ _
theorem JcG (s : ByteArray) : ∀ (k j t : Nat), j <= t -> t < Xo s k j -> ZA (Jb s t) = true /\ t < s.size
 | 0, j, t, h1, h2 => by unfold Xo at h2; omega
 | k + 1, j, t, h1, h2 => by
  unfold Xo at h2;split at h2
  ·split at h2
   ·rename_i hj hf
    rcases Nat.lt_or_ge j t with h | h
    ·exact JcG s k (j + 1) t (by omega) h2
    obtain rfl : t = j := by omega
    exact ⟨hf, hj⟩
   omega
  omega
theorem XW {s : ByteArray} {j t : Nat} (h1 : j <= t) (h2 : t < Qg s j) : ZA (Jb s t) = true /\ t < s.size := JcG s _ j t h1 h2
def UX (s : ByteArray) (a e : Nat) : Nat := QW 0 (s.extract a e).data.toList
def VC (s : ByteArray) (neg : Bool) (a : Nat) : Int × Int :=
 if Qg s a = a ∨ (Jb s a = 48 /\ a + 1 < Qg s a) ∨ (Qg s a < s.size /\ (Jb s (Qg s a) = 46 ∨ Jb s (Qg s a) = 101 ∨ Jb s (Qg s a) = 69)) then (0, -1)
 else if neg = true then (if UX s a (Qg s a) <= 9223372036854775808 then (-(UX s a (Qg s a) : Int), (Qg s a : Int)) else (0, -1))
 else (if UX s a (Qg s a) <= 9223372036854775807 then ((UX s a (Qg s a) : Int), (Qg s a : Int)) else (0, -1))
def JF (s : ByteArray) (i : Nat) : Int × Int :=
 if i < s.size then (if Jb s i = 45 then VC s true (i + 1) else VC s false i) else (0, -1)
theorem VI (s : ByteArray) (a e k : Nat) (he : e <= s.size) (hk : a + k < e) : (s.extract a e).data.toList[k]? = some (s.get! (a + k)) := by
 have h1 : (s.extract a e).data.toList = (s.data.toList.drop a).take (e - a) := by
  rw [ByteArray.data_extract, Array.toList_extract, List.extract_eq_take_drop]
 rw [h1, List.getElem?_take, if_pos (by omega), List.getElem?_drop];have h2 : a + k < s.data.toList.length := by rw [Array.length_toList]; show a + k < s.size; omega
 rw [List.getElem?_eq_getElem h2];congr 1
 rw [Array.getElem_toList];have h3 : a + k < s.size := by omega
 show s.data[a + k] = s.data[a + k]!
 rw [getElem!_pos s.data (a + k) h3]
theorem Yp (s : ByteArray) (a e : Nat) (he : e <= s.size) : (s.extract a e).data.toList.length = e - a := by
 rw [Array.length_toList];show (s.extract a e).size = e - a
 rw [ByteArray.size_extract];omega
theorem JlR {s : ByteArray} {t : Nat} (h : ZA (Jb s t) = true) : Yr (s.get! t) := by
 unfold ZA Jb at h;simp at h;unfold Yr;omega
theorem JeD {s : ByteArray} {a e : Nat} (he : e <= s.size) (h : ∀ t, a <= t -> t < e -> ZA (Jb s t) = true) : ∀ c ∈ (s.extract a e).data.toList, Yr c := by
 intro c hc;obtain ⟨k, hk⟩ := List.mem_iff_getElem?.1 hc
 have hl : k < e - a := by
  have := (List.getElem?_eq_some_iff.1 hk).1
  rwa [Yp s a e he] at this
 rw [VI s a e k he (by omega)] at hk;injection hk with hk
 subst hk;exact JlR (h _ (by omega) (by omega))
theorem Jii {l : List UInt8} (h0 : l ≠ []) (hf : ∀ c ∈ l, Yr c) : atoiAll l = if QW 0 l <= 9223372036854775807 then .ok (QW 0 l : Int) else .range := by
 rcases l with _ | ⟨c, r⟩
 ·exact absurd rfl h0
 have hc := hf c (by simp);unfold Yr at hc;rw [atoiAll_plain c r (by omega) (by omega)];unfold parseMag;rw [if_neg (by simp), Jbp _ 0 hf (by omega)];obtain ⟨u, hu⟩ : ∃ u, u = QW 0 (c :: r) := ⟨_, rfl⟩
 rw [<- hu];by_cases h1 : u < 18446744073709551616
 ·rw [if_pos h1]
  show (if 9223372036854775808 <= u then NumEnd.range else NumEnd.ok (u : Int)) = _
  by_cases h2 : u <= 9223372036854775807
  ·rw [if_neg (by omega), if_pos h2]
  rw [if_pos (by omega), if_neg h2]
 rw [if_neg h1, if_neg (by omega)];rfl
theorem JgE {l : List UInt8} (h0 : l ≠ []) (hf : ∀ c ∈ l, Yr c) : atoiAll (45 :: l) = if QW 0 l <= 9223372036854775808 then .ok (-(QW 0 l : Int)) else .range := by
 rw [atoiAll_minus];unfold parseMag;rw [if_neg h0, Jbp _ 0 hf (by omega)];obtain ⟨u, hu⟩ : ∃ u, u = QW 0 l := ⟨_, rfl⟩
 rw [<- hu];by_cases h1 : u < 18446744073709551616
 ·rw [if_pos h1]
  show (if 9223372036854775808 < u then NumEnd.range else NumEnd.ok (-(u : Int))) = _
  by_cases h2 : u <= 9223372036854775808
  ·rw [if_neg (by omega), if_pos h2]
  rw [if_pos (by omega), if_neg h2]
 rw [if_neg h1, if_neg (by omega)];rfl
theorem Wz {s : ByteArray} {a e : Nat} (hae : a < e) (he : e <= s.size) (h : ∀ t, a <= t -> t < e -> ZA (Jb s t) = true) (hz : ¬ (Jb s a = 48 /\ a + 1 < e)) :
  Qv (UX s a e : Int) = s.extract a e := by
 have hl := Yp s a e he;have hg := VI s a e 0 he (by omega)
 have hc := X9 (e - a) (s.extract a e).data.toList hl (by intro hn; rw [hn] at hl; simp at hl; omega) (JeD he h) (fun c r hcr hr => by
  rw [hcr] at hg hl;simp at hg;intro hcc;refine hz ⟨by unfold Jb; rw [<- hg, hcc]; rfl, ?_⟩;rcases r with _ | ⟨x, r⟩
  ·exact absurd rfl hr
  simp at hl; omega)
 rw [XP];unfold UX;rw [hc]
theorem JgP {s : ByteArray} {a e : Nat} (hae : a < e) (he : e <= s.size) (h : ∀ t, a <= t -> t < e -> ZA (Jb s t) = true) (hz : ¬ (Jb s a = 48 /\ a + 1 < e)) :
  readI (s.extract a e) = if UX s a e <= 9223372036854775807 then some (UX s a e) else none := by
 have hd := Wz hae he h hz;by_cases hv : UX s a e <= 9223372036854775807
 ·rw [if_pos hv]
  exact Jfo hv hd
 rw [if_neg hv];unfold readI;exact if_neg (fun hc => hv hc.1)
theorem ZR {s : ByteArray} {i a : Nat} (h : i < s.size) (ha : a = if Jb s i = 45 then i + 1 else i) : JF s i = VC s (decide (Jb s i = 45)) a := by
 unfold JF;rw [if_pos h];by_cases h45 : Jb s i = 45
 ·rw [if_pos h45] at ha ⊢
  rw [JmG h45, ha]
 rw [if_neg h45] at ha ⊢;rw [JmF h45, ha]
theorem YN {s : ByteArray} {neg : Bool} {a : Nat} (h : Qg s a = a ∨ (Jb s a = 48 /\ a + 1 < Qg s a) ∨ (Qg s a < s.size /\ (Jb s (Qg s a) = 46 ∨ Jb s (Qg s a) = 101 ∨ Jb s (Qg s a) = 69))) : VC s neg a = (0, -1) := if_pos h
theorem JdZ {s : ByteArray} {i e : Nat} (hi : i < e) (he : e <= s.size) : (s.extract i e).data.toList = s.get! i :: (s.extract (i + 1) e).data.toList := by
 apply List.ext_getElem?;intro k;rcases k with _ | k
 ·rw [VI s i e 0 he (by omega)]; rfl
 rw [List.getElem?_cons_succ];by_cases hk : i + 1 + k < e
 ·rw [VI s i e (k + 1) he (by omega), VI s (i + 1) e k he hk]
  congr 2
  omega
 rw [List.getElem?_eq_none (by rw [Yp s i e he]; omega), List.getElem?_eq_none (by rw [Yp s (i + 1) e he]; omega)]
theorem Jbf {s : ByteArray} {i a : Nat} (hi : i < s.size) (ha : a = if Jb s i = 45 then i + 1 else i) (h : ¬ (Qg s a = a ∨ (Jb s a = 48 /\ a + 1 < Qg s a) ∨ (Qg s a < s.size /\ (Jb s (Qg s a) = 46 ∨ Jb s (Qg s a) = 101 ∨ Jb s (Qg s a) = 69)))) :
  (∃ v, atoiAll (s.extract i (Qg s a)).data.toList = .ok v /\ JF s i = (v, (Qg s a : Int))) ∨ (atoiAll (s.extract i (Qg s a)).data.toList = .range /\ JF s i = (0, -1)) := by
 have hae := U9 s a;have has : a <= s.size := by rw [ha]; split <;> omega
 have hes := hae.2 has;have hne : a < Qg s a := by have := hae.1; have := not_or.1 h; omega
 have hf := JeD (s := s) (a := a) (e := Qg s a) hes (fun t h1 h2 => (XW h1 h2).1);have hl := Yp s a (Qg s a) hes;have h0 : (s.extract a (Qg s a)).data.toList ≠ [] := by intro hn; rw [hn] at hl; simp at hl; omega
 rw [ZR hi ha];unfold VC;rw [if_neg h];by_cases h45 : Jb s i = 45
 ·rw [if_pos h45] at ha
  rw [JmG h45, if_pos rfl];have hc := JdZ (s := s) (i := i) (e := Qg s a) (by omega) hes
  have hb : s.get! i = 45 := by
   apply UInt8.toNat_inj.1;have h9 : (45 : UInt8).toNat = 45 := rfl;unfold Jb at h45;rw [h9];omega
  rw [hc, hb, <- ha, JgE h0 hf];unfold UX;by_cases hv : QW 0 (s.extract a (Qg s a)).data.toList <= 9223372036854775808
  ·rw [if_pos hv, if_pos hv]; exact .inl ⟨_, rfl, rfl⟩
  rw [if_neg hv, if_neg hv]; exact .inr ⟨rfl, rfl⟩
 rw [if_neg h45] at ha;rw [JmF h45, if_neg (by decide)];rw [ha] at hf h0 ⊢;rw [Jii h0 hf];unfold UX;by_cases hv : QW 0 (s.extract i (Qg s i)).data.toList <= 9223372036854775807
 ·rw [if_pos hv, if_pos hv]; exact .inl ⟨_, rfl, rfl⟩
 rw [if_neg hv, if_neg hv]; exact .inr ⟨rfl, rfl⟩
theorem JhR : Qv (9223372036854775808 : Nat) = ⟨#[57, 50, 50, 51, 51, 55, 50, 48, 51, 54, 56, 53, 52, 55, 55, 53, 56, 48, 56]⟩ := by
 rw [XP];have h := X9 19 [57, 50, 50, 51, 51, 55, 50, 48, 51, 54, 56, 53, 52, 55, 55, 53, 56, 48, 56] rfl (by simp) (by unfold Yr; decide) (by intro c r h _; simp at h; rw [<- h.1]; decide);rw [show QW 0 [57, 50, 50, 51, 51, 55, 50, 48, 51, 54, 56, 53, 52, 55, 55, 53, 56, 48, 56] = 9223372036854775808 from by unfold QW; rfl] at h;rw [h]
theorem JlI {s : ByteArray} {a e : Nat} (hae : a < e) (he : e <= s.size) (h : ∀ t, a <= t -> t < e -> ZA (Jb s t) = true) (hz : ¬ (Jb s a = 48 /\ a + 1 < e)) : s.extract a e = ⟨#[57, 50, 50, 51, 51, 55, 50, 48, 51, 54, 56, 53, 52, 55, 55, 53, 56, 48, 56]⟩ ↔ UX s a e = 9223372036854775808 := by
 have hd := Wz hae he h hz;constructor
 ·intro hx
  rw [hx, <- JhR] at hd;have h1 := congrArg (fun z : ByteArray => QW 0 z.data.toList) hd;simp only [Jc6, JaY] at h1;exact h1
 intro hn;rw [<- hd, hn];exact JhR
theorem JdP {s : ByteArray} (h : s.size = 0) : s.toList.isEmpty = true := by
 rw [Lib.toList_data, List.isEmpty_iff];exact List.eq_nil_of_length_eq_zero (by rw [Array.length_toList]; exact h)
theorem toList_some {s : ByteArray} (h : 0 < s.size) : s.toList.isEmpty = false := by
 rw [Lib.toList_data];rcases h1 : s.data.toList with _ | ⟨x, l⟩
 ·have h2 : s.data.toList.length = 0 := by rw [h1]; rfl
  rw [Array.length_toList] at h2;have h3 : s.size = s.data.size := rfl;omega
 rfl
def Y4 (x : Nat) : UInt8 := if x < 10 then UInt8.ofNat (48 + x) else UInt8.ofNat (87 + x)
def qN (n : Nat) : List UInt8 :=
 if n = 34 ∨ n = 92 then [92, UInt8.ofNat n] else if n = 8 then [92, 98] else if n = 12 then [92, 102] else if n = 10 then [92, 110] else if n = 13 then [92, 114] else if n = 9 then [92, 116]
 else if n < 32 then [92, 117, 48, 48, Y4 (n / 16), Y4 (n % 16)] else [UInt8.ofNat n]
def qB (c : UInt8) : List UInt8 := qN c.toNat
def qR (r : Nat) : List UInt8 := if r < 128 then qN r else (Jq r).data.toList
def JN (s : ByteArray) : ByteArray := if Qt s then ⟨(34 :: s.data.toList.flatMap qB ++ [34]).toArray⟩ else ⟨#[]⟩
theorem JkL {c : UInt8} (h : 128 <= c.toNat) : qB c = [c] := by
 unfold qB qN;rw [if_neg (by omega), if_neg (by omega), if_neg (by omega), if_neg (by omega), if_neg (by omega), if_neg (by omega), if_neg (by omega)];simp
theorem JgR (n : Nat) : (qN n).length <= 6 := by
 unfold qN;by_cases h0 : n = 34 ∨ n = 92
 ·rw [if_pos h0]; simp
 rw [if_neg h0];by_cases h1 : n = 8
 ·rw [if_pos h1]; simp
 rw [if_neg h1];by_cases h2 : n = 12
 ·rw [if_pos h2]; simp
 rw [if_neg h2];by_cases h3 : n = 10
 ·rw [if_pos h3]; simp
 rw [if_neg h3];by_cases h4 : n = 13
 ·rw [if_pos h4]; simp
 rw [if_neg h4];by_cases h5 : n = 9
 ·rw [if_pos h5]; simp
 rw [if_neg h5];by_cases h6 : n < 32
 ·rw [if_pos h6]; simp
 rw [if_neg h6];simp
theorem Jj8 (r : Nat) : (Jq r).data.toList.length <= 4 := by
 have h := congrArg List.length (Vm r);rw [List.length_map] at h;rw [h];unfold J5;repeat' split
 all_goals simp
theorem JgN (r : Nat) : (qR r).length <= 6 := by
 unfold qR;split
 ·exact JgR r
 have := Jj8 r;omega
theorem JdI : ∀ {a b : List UInt8}, a.map UInt8.toNat = b.map UInt8.toNat -> a = b
 | [], [], _ => rfl
 | [], _ :: _, h => by cases h
 | _ :: _, [], h => by cases h
 | x :: a, y :: b, h => by
  simp only [List.map_cons, List.cons.injEq] at h;rw [UInt8.toNat_inj.1 h.1, JdI h.2]
theorem Xb {r : Nat} {l : List UInt8} (h : J5 r = l.map UInt8.toNat) : (Jq r).data.toList = l := JdI (by rw [Vm, h])
theorem Uk (l : List UInt8) (hne : l ≠ []) (hv : decodeL l ≠ (65533, 1)) :
  (∃ b : UInt8, (decodeL l).1 = b.toNat /\ b.toNat < 128 /\ l.take (decodeL l).2 = [b]) ∨ (128 <= (decodeL l).1 /\ (Jq (decodeL l).1).data.toList = l.take (decodeL l).2 /\ ∀ x ∈ l.take (decodeL l).2, 128 <= x.toNat) := by
 have hl : 0 < l.length := List.length_pos_iff.2 hne;rw [decodeL_N] at hv ⊢;have k0 := (l.getD 0 0).toNat_lt;have k1 := (l.getD 1 0).toNat_lt;have k2 := (l.getD 2 0).toNat_lt;have k3 := (l.getD 3 0).toNat_lt;rcases decodeN_shape l.length (l.getD 0 0).toNat (l.getD 1 0).toNat (l.getD 2 0).toNat (l.getD 3 0).toNat with ⟨c, e⟩ | ⟨c1, c2, c3, cv, e⟩ | ⟨c1, c2, c3, c4, cv, cs, e⟩ | ⟨c1, c2, c3, c4, c5, cv, cs, e⟩ | e
 ·rw [e]
  exact .inl ⟨l.getD 0 0, rfl, c, takeA l hl⟩
 ·rw [e]
  refine .inr ⟨cv, ?_, ?_⟩
  ·show (Jq ((l.getD 0 0).toNat % 32 * 64 + (l.getD 1 0).toNat % 64 : Nat)).data.toList = l.take 2
   refine Xb ?_;rw [takeB l c2];unfold J5;rw [if_neg (by omega), if_neg (by omega), if_pos (by omega)];simp only [List.map_cons, List.map_nil, List.cons.injEq, and_true];omega
  intro x hx;rw [show l.take (((l.getD 0 0).toNat % 32 * 64 + (l.getD 1 0).toNat % 64, 2) : Nat × Nat).2 = l.take 2 from rfl, takeB l c2] at hx;simp only [List.mem_cons, List.mem_nil_iff, or_false] at hx;rcases hx with rfl | rfl <;> omega
 ·rw [e]
  refine .inr ⟨by show 128 <= (l.getD 0 0).toNat % 16 * 4096 + (l.getD 1 0).toNat % 64 * 64 + (l.getD 2 0).toNat % 64; omega, ?_, ?_⟩
  ·show (Jq ((l.getD 0 0).toNat % 16 * 4096 + (l.getD 1 0).toNat % 64 * 64 + (l.getD 2 0).toNat % 64 : Nat)).data.toList = l.take 3
   refine Xb ?_;rw [takeC l c2];unfold J5;rw [if_neg (by omega), if_neg (by omega), if_neg (by omega), if_pos (by omega)];simp only [List.map_cons, List.map_nil, List.cons.injEq, and_true];omega
  intro x hx;rw [show l.take (((l.getD 0 0).toNat % 16 * 4096 + (l.getD 1 0).toNat % 64 * 64 + (l.getD 2 0).toNat % 64, 3) : Nat × Nat).2 = l.take 3 from rfl, takeC l c2] at hx;simp only [List.mem_cons, List.mem_nil_iff, or_false] at hx;rcases hx with rfl | rfl | rfl <;> omega
 ·rw [e]
  refine .inr ⟨by show 128 <= (l.getD 0 0).toNat % 8 * 262144 + (l.getD 1 0).toNat % 64 * 4096 + (l.getD 2 0).toNat % 64 * 64 + (l.getD 3 0).toNat % 64; omega, ?_, ?_⟩
  ·show (Jq ((l.getD 0 0).toNat % 8 * 262144 + (l.getD 1 0).toNat % 64 * 4096 + (l.getD 2 0).toNat % 64 * 64 + (l.getD 3 0).toNat % 64 : Nat)).data.toList = l.take 4
   refine Xb ?_;rw [takeD l c2];unfold J5;rw [if_neg (by omega), if_neg (by omega), if_neg (by omega), if_neg (by omega)];simp only [List.map_cons, List.map_nil, List.cons.injEq, and_true];omega
  intro x hx;rw [show l.take (((l.getD 0 0).toNat % 8 * 262144 + (l.getD 1 0).toNat % 64 * 4096 + (l.getD 2 0).toNat % 64 * 64 + (l.getD 3 0).toNat % 64, 4) : Nat × Nat).2 = l.take 4 from rfl, takeD l c2] at hx;simp only [List.mem_cons, List.mem_nil_iff, or_false] at hx;rcases hx with rfl | rfl | rfl | rfl <;> omega
 exact absurd e hv
theorem Wf : ∀ {l : List UInt8}, (∀ x ∈ l, 128 <= x.toNat) -> l.flatMap qB = l
 | [], _ => rfl
 | x :: l, h => by
  rw [List.flatMap_cons, JkL (h x (by simp)), Wf (fun y hy => h y (by simp [hy]))];rfl
theorem Jaw (s : ByteArray) : ∀ (f i : Nat) (rs : List Nat), s.size - i <= f -> JH s i = some rs -> (s.data.toList.drop i).flatMap qB = rs.flatMap qR
 | f, i, rs, hf, h => by
  by_cases hi : i < s.size
  ·by_cases hd : Utf8.decode s i = (65533, 1)
   ·rw [QQ hi hd] at h; cases h
   rw [Qu hi hd] at h;have hdl := Qm s i hi;have hl : s.data.toList.length = s.size := Array.length_toList
   have hne : s.data.toList.drop i ≠ [] := fun e => by
    have := congrArg List.length e;rw [List.length_drop, hl] at this;simp at this;omega
   have hk : 1 <= (Utf8.decode s i).2 := by have := JT s i hi; omega
   rcases hr : JH s (i + (Utf8.decode s i).2) with _ | rs'
   ·rw [hr] at h; cases h
   rw [hr] at h;obtain rfl := Option.some.inj h;cases f with
   | zero => omega
   | succ f =>
    have ih := Jaw s f (i + (Utf8.decode s i).2) rs' (by omega) hr
    have hs : s.data.toList.drop i = (s.data.toList.drop i).take (Utf8.decode s i).2 ++ s.data.toList.drop (i + (Utf8.decode s i).2) := by
     rw [<- List.drop_drop, List.take_append_drop]
    rw [hs, List.flatMap_append, List.flatMap_cons, ih];congr 1
    rw [<- hdl];rcases Uk _ hne (by rw [hdl]; exact hd) with ⟨b, h1, h2, h3⟩ | ⟨h1, h2, h3⟩
    ·rw [h3, h1]
     unfold qR;rw [if_pos h2];simp [qB]
    unfold qR;rw [if_neg (by omega), Wf h3, h2]
  rw [QE hi] at h;obtain rfl := Option.some.inj h;rw [List.drop_of_length_le (by rw [Array.length_toList]; exact Nat.le_of_not_lt hi)];rfl
theorem Xt {s : ByteArray} {rs : List Nat} (h : JH s 0 = some rs) : JN s = ⟨(34 :: rs.flatMap qR ++ [34]).toArray⟩ := by
 have h1 := Jaw s _ 0 rs (Nat.le_refl _) h;rw [List.drop_zero] at h1;unfold JN Qt;rw [h, h1];rfl
theorem Je2 {s : ByteArray} (h : JH s 0 = none) : JN s = ⟨#[]⟩ := by unfold JN Qt; rw [h]; rfl
theorem JgM {w wr w' : World} {e : TypeId} {sz n : Nat} {v : Value} {xs : List Value} (h : wr.ownsRow w.heap.size e sz v n xs) (_ : Below w.heap.size w w') (hb : Below wr.heap.size wr w') : w'.ownsRow w.heap.size e sz v n xs :=
 Jh h (fun q hq => hb.block q (World.ownsRow.lt h q hq).2)
theorem Zo (s : ByteArray) (i : Nat) (w : World) (hs : s.size <= 1048576) (hi : i <= 1048576) :
  Calls Tryz.prog 190 #[.string s, .int .i64 i] w fun e w' => e = .returned (.tuple #[.string (Jr s i).1, .int .i64 (Jr s i).2]) /\ Below w.heap.size w w' := by
 by_cases hlt : (i : Int) < s.size
 focus
  have hii : i < s.size := by omega
  have h0 : Q6 (i : Int) 0 ((s.size : Int) - 1) = true := JmG (by omega);have hz0 : (0 : Int) <= i := by omega
  obtain ⟨b, hb⟩ : ∃ b : Nat, b = (s.get! i).toNat := ⟨_, rfl⟩
  have hx : (s[i]'hii).toNat = b := by rw [hb]; exact Q2 s i hii
  have hby : Jb s i = b := by unfold Jb; rw [hb]
  clear hb;by_cases e34 : (b : Int) = 34
  ·have HQ := hid (show Jr s i = Vo s (i + 1) [] by unfold Jr; rw [if_pos hii, hby, if_pos e34])
   obtain rfl : b = 34 := by omega
   clear e34;obtain ⟨i0, hi, hz0, hz1, hz2⟩ := info_parts (show (Tryz.prog.info? 5).map (fun i => (i.zero, i.size, i.bytes)) = some (some (.int .u8 0), 1, 1) from by kernel_rfl);go_enter Tryz.func190, Tryz.ntmps190
   go_wp2_with (first | (go_at_call 115; refine (Jo _ _ _ _).mono ?_; rintro e w' ⟨rfl, rfl⟩))
   go_loopw [1, 6] (fun s1 s6 wr => ∃ (j : Nat) (M : List UInt8) (A : Option Addr) (c n : Nat), j <= s.size /\ s1 = .int .i64 j /\ n = M.length /\ s6 = .slice A n c /\ wr.ownsRow w.heap.size 5 1 (.slice A n c) n (Lib.strCells ⟨M.toArray⟩) /\ n <= 4 * j /\ Jr s i = Vo s j M /\ Below w.heap.size w wr) (fun s1 _ _ => s.size - (Lib.intOf s1).toNat)
   case atStart => exact ⟨i + 1, [], some ⟨w.heap.size, 0, none⟩, 0, 0, by omega, by go_num, rfl, rfl, JV rfl (Nat.le_refl _), by omega, HQ.out, Jj⟩
   case round =>
    obtain ⟨j, M, A, c, n, hjl, rfl, hn, rfl, hown, hnj, hq, hbr⟩ := hrel;have HO := hid hown;have HG := hid hq;have HBr := hid hbr;have HNn := hid hn;clear hown hq hbr hn hx hby;by_cases hlt2 : (j : Int) < s.size
    ·have hjj : j < s.size := by omega
     have hj0 : (0 : Int) <= j := by omega
     obtain ⟨b, hb⟩ : ∃ b : Nat, b = (s.get! j).toNat := ⟨_, rfl⟩
     have hx : (s[j]'hjj).toNat = b := by rw [hb]; exact Q2 s j hjj
     have hby : Jb s j = b := by unfold Jb; rw [hb]
     have HS := hid (HG.out.trans (ZE hjj));rw [hby] at HS;have HY := hid hby;clear hb hby;by_cases e34 : (b : Int) = 34
     ·have Hf := hid (show Jr s i = (⟨M.toArray⟩, (j : Int) + 1) by rw [HS.out, if_pos e34])
      obtain rfl : b = 34 := by omega
      clear e34;have hcv := V7 HNn.out HO.out;go_wp2_with fail
      go_ret2
      exact ⟨by rw [Hf.out]; rfl, HBr.out⟩
     have f34 : ((b : Int) == 34) = false := JmH e34;have HT := hid (show Jr s i = if (J8 s j).2 < 0 then (⟨#[]⟩, -1) else Vo s (J8 s j).2.toNat (M ++ (Jq (J8 s j).1).data.toList) by rw [HS.out, if_neg e34]);by_cases e92 : (b : Int) = 92
     focus
      obtain rfl : b = 92 := by omega
      clear e92 e34 f34;obtain ⟨p1, hp1⟩ : ∃ p, p = j + 1 := ⟨_, rfl⟩
      have q1 : (j : Int) + 1 = p1 := by omega
      obtain ⟨x, hxx⟩ : ∃ x, x = (J4 s p1).1 := ⟨_, rfl⟩
      obtain ⟨y, hyy⟩ : ∃ y, y = (J4 s p1).2 := ⟨_, rfl⟩
      have hN : J8 s j = (x, y) := by unfold J8; rw [HY.out, if_pos (show ((92 : Nat) : Int) = 92 from rfl), <- hp1, hxx, hyy]
      rw [hN] at HT;obtain ⟨hn1, hn2, hn3⟩ := Jae s p1;rw [<- hxx] at hn2 hn3;rw [<- hyy] at hn1;have HXY := hid (And.intro hxx hyy);have HN1 := hid hn1;clear hxx hyy hN hn1 hp1;by_cases y0 : y < 0
      ·have Hf := hid (show Jr s i = (⟨#[]⟩, -1) by rw [HT.out]; exact if_pos y0)
       go_wp2_with fail
       refine (JaC s p1 _ hs (by omega)).mono ?_;rintro e w9 ⟨rfl, rfl⟩;rw [<- HXY.out.1, <- HXY.out.2];go_wp2_with fail
       go_ret2
       exact ⟨by rw [Hf.out]; rfl, HBr.out⟩
      obtain ⟨q, rfl⟩ : ∃ q : Nat, y = q := ⟨y.toNat, by omega⟩
      have hjq : j < q := by have := HN1.out; omega
      have hqs : q <= s.size := by have := HN1.out; omega
      have HE := hid (show Jr s i = Vo s q (M ++ (Jq x).data.toList) by rw [HT.out]; exact if_neg y0);have d0 : decide ((q : Int) < 0) = false := JmF y0;clear y0;go_wp2_with fail
      refine (JaC s p1 _ hs (by omega)).mono ?_;rintro e w9 ⟨rfl, rfl⟩;rw [<- HXY.out.1, <- HXY.out.2];go_wp2_with fail
      refine (Qn x _ (by omega)).mono ?_;rintro e w2 ⟨rfl, hb2⟩;have B2 : Below w.heap.size w w2 := HBr.out.trans (hb2.mono (HBr.out).size);have hR2 := JgM HO.out B2 hb2
     rotate_left
     focus
      have f92 : ((b : Int) == 92) = false := JmH e92;obtain ⟨x, hxx⟩ : ∃ x, x = (JI s j).1 := ⟨_, rfl⟩
      obtain ⟨y, hyy⟩ : ∃ y, y = (JI s j).2 := ⟨_, rfl⟩
      have hN : J8 s j = if x < 32 then (0, -1) else (x, y) := by unfold J8; rw [HY.out, if_neg e92, hxx, hyy]
      rw [hN] at HT;obtain ⟨hn1, hn2, hn3⟩ := W2 s j;rw [<- hxx] at hn2 hn3;rw [<- hyy] at hn1;have HXY := hid (And.intro hxx hyy);have HN1 := hid hn1;clear hxx hyy hN hn1 e92 e34;by_cases x32 : x < 32
      ·rw [if_pos x32] at HT
       have Hf := hid (show Jr s i = (⟨#[]⟩, -1) by rw [HT.out]; rfl);go_wp2_with fail
       refine (Vx s j _ (by omega) (by omega)).mono ?_;rintro e w1 ⟨rfl, hb⟩;have HB1 := hid (HBr.out.trans (hb.mono HBr.out.size));rw [<- HXY.out.1, <- HXY.out.2];go_wp2_with fail
       go_ret2
       exact ⟨by rw [Hf.out]; rfl, HB1.out⟩
      rw [if_neg x32] at HT;have d32 : decide (x < 32) = false := JmF x32;clear x32;by_cases y0 : y < 0
      ·have Hf := hid (show Jr s i = (⟨#[]⟩, -1) by rw [HT.out]; exact if_pos y0)
       go_wp2_with fail
       refine (Vx s j _ (by omega) (by omega)).mono ?_;rintro e w1 ⟨rfl, hb⟩;have HB1 := hid (HBr.out.trans (hb.mono HBr.out.size));rw [<- HXY.out.1, <- HXY.out.2];go_wp2_with fail
       go_ret2
       exact ⟨by rw [Hf.out]; rfl, HB1.out⟩
      obtain ⟨q, rfl⟩ : ∃ q : Nat, y = q := ⟨y.toNat, by omega⟩
      have hjq : j < q := by have := HN1.out; omega
      have hqs : q <= s.size := by have := HN1.out; omega
      have HE := hid (show Jr s i = Vo s q (M ++ (Jq x).data.toList) by rw [HT.out]; exact if_neg y0);have d0 : decide ((q : Int) < 0) = false := JmF y0;clear y0;go_wp2_with fail
      refine (Vx s j _ (by omega) (by omega)).mono ?_;rintro e w1 ⟨rfl, hb⟩;have HB1 := hid (HBr.out.trans (hb.mono HBr.out.size));rw [<- HXY.out.1, <- HXY.out.2];go_wp2_with fail
      refine (Qn x _ (by omega)).mono ?_;rintro e w2 ⟨rfl, hb2⟩;have B2 : Below w.heap.size w w2 := HB1.out.trans (hb2.mono HB1.out.size);have hR2 := JgM HO.out B2 (hb.trans (hb2.mono hb.size))
     rotate_left
     all_goals
      have htz := VT x;have hM4 : n + (Jq x).size <= 4 * q := by omega
      have HB2 := hid B2;have hsz2 := B2.size;clear hb2 B2;go_wp2_with (at_builtin; refine wpList_append_own_string _ rfl (.tmp 57) (.tmp 59) 28 9 rfl w.heap.size 5 i0 Tryz.underlying28 Tryz.underlying9 hi hz0 hz1 hz2 _ n _ rfl hR2 (Jq x) rfl (by simp only [maxLen]; omega) (by omega) hsz2 ?_; intro v5 w5 hR5 hg5 _; obtain ⟨A5, c5, rfl⟩ := JP hR5; rw [Qf] at hR5)
      have HB5 := Below.grown HB2.out hg5 hsz2 (fun k hk => (World.ownsRow.lt hR2 k hk).1);go_roundw
      case rel => exact ⟨q, M ++ (Jq x).data.toList, A5, c5, n + (Jq x).size, by omega, rfl, by rw [List.length_append, HNn.out, Array.length_toList]; rfl, rfl, hR5, hM4, HE.out, HB5⟩
      case measure => simp [Lib.intOf]; omega
    have Hf := hid (show Jr s i = (⟨#[]⟩, -1) by rw [HG.out]; exact Wp (by omega));go_wp2_with fail
    go_ret2
    exact ⟨by rw [Hf.out]; rfl, HBr.out⟩
  have HQ := hid (show Jr s i = (⟨#[]⟩, -1) by unfold Jr; rw [if_pos hii, hby, if_neg e34]);have f34 : ((b : Int) == 34) = false := JmH e34;have n34 : ((b : Int) != 34) = true := bne_iff_ne.2 e34;clear e34
 rotate_left
 focus
  have HQ := hid (show Jr s i = (⟨#[]⟩, -1) by unfold Jr; rw [if_neg (by omega)]);have h0 : Q6 (i : Int) 0 ((s.size : Int) - 1) = false := JmF (by omega)
 rotate_left
 all_goals
  go_enter Tryz.func190, Tryz.ntmps190
  go_wp2_with (first | (go_at_call 115; refine (Jo _ _ _ _).mono ?_; rintro e w' ⟨rfl, rfl⟩))
  go_ret2
  exact ⟨by rw [HQ.out]; rfl, Below.refl _ _⟩
theorem Zq (s : ByteArray) (i : Nat) (w : World) (hs : s.size <= 1048576) (hi : i <= 1048576) (hV : CTab w) (hT : Tabs w) :
  Calls Tryz.prog 180 #[.string s, .int .i64 i] w fun e w' => e = .returned (.tuple #[.string (Jr s i).1, .int .i64 (Jr s i).2]) /\ Below w.heap.size w w' := by
 have HVT := hid (And.intro hV hT);clear hV hT;by_cases hlt : (i : Int) < s.size
 focus
  have hii : i < s.size := by omega
  have h1 : decide ((s.size : Int) <= i) = false := JmF (by omega);have h2 : decide (s.size <= i) = false := JmF (by omega);have h3 : decide ((i : Int) < 0) = false := JmF (by omega);have hz0 : (0 : Int) <= i := by omega
  obtain ⟨b, hb⟩ : ∃ b : Nat, b = (s.get! i).toNat := ⟨_, rfl⟩
  have hx : (s[i]'hii).toNat = b := by rw [hb]; exact Q2 s i hii
  have hby : Jb s i = b := by unfold Jb; rw [hb]
  clear hb;by_cases e34 : (b : Int) = 34
  ·have HQ := hid (show Jr s i = Vo s (i + 1) [] by unfold Jr; rw [if_pos hii, hby, if_pos e34])
   obtain rfl : b = 34 := by omega
   clear e34;obtain ⟨i0, hi, hz0, hz1, hz2⟩ := info_parts (show (Tryz.prog.info? 5).map (fun i => (i.zero, i.size, i.bytes)) = some (some (.int .u8 0), 1, 1) from by kernel_rfl);go_enter Tryz.func180, Tryz.ntmps180
   go_wp2_with fail
   go_loopw [1, 6] (fun s1 s6 wr => ∃ (j : Nat) (M : List UInt8) (A : Option Addr) (c n : Nat), j <= s.size /\ s1 = .int .i64 j /\ n = M.length /\ s6 = .slice A n c /\ wr.ownsRow w.heap.size 5 1 (.slice A n c) n (Lib.strCells ⟨M.toArray⟩) /\ n <= 4 * j /\ Jr s i = Vo s j M /\ Below w.heap.size w wr) (fun s1 _ _ => s.size - (Lib.intOf s1).toNat)
   case atStart => exact ⟨i + 1, [], some ⟨w.heap.size, 0, none⟩, 0, 0, by omega, by go_num, rfl, rfl, JV rfl (Nat.le_refl _), by omega, HQ.out, Jj⟩
   case round =>
    obtain ⟨j, M, A, c, n, hjl, rfl, hn, rfl, hown, hnj, hq, hbr⟩ := hrel;have HO := hid hown;have HG := hid hq;have HBr := hid hbr;have HNn := hid hn;clear hown hq hbr hn hx hby;by_cases hlt2 : (j : Int) < s.size
    ·have hjj : j < s.size := by omega
     have hj0 : (0 : Int) <= j := by omega
     obtain ⟨b, hb⟩ : ∃ b : Nat, b = (s.get! j).toNat := ⟨_, rfl⟩
     have hx : (s[j]'hjj).toNat = b := by rw [hb]; exact Q2 s j hjj
     have hby : Jb s j = b := by unfold Jb; rw [hb]
     have HS := hid (HG.out.trans (ZE hjj));rw [hby] at HS;have HY := hid hby;clear hb hby;by_cases e34 : (b : Int) = 34
     ·have Hf := hid (show Jr s i = (⟨M.toArray⟩, (j : Int) + 1) by rw [HS.out, if_pos e34])
      obtain rfl : b = 34 := by omega
      clear e34;have hcv := V7 HNn.out HO.out;go_wp2_with fail
      go_ret2
      exact ⟨by rw [Hf.out]; rfl, HBr.out⟩
     have f34 : ((b : Int) == 34) = false := JmH e34;have HT := hid (show Jr s i = if (J8 s j).2 < 0 then (⟨#[]⟩, -1) else Vo s (J8 s j).2.toNat (M ++ (Jq (J8 s j).1).data.toList) by rw [HS.out, if_neg e34]);by_cases e92 : (b : Int) = 92
     focus
      obtain rfl : b = 92 := by omega
      clear e92 e34 f34;obtain ⟨p1, hp1⟩ : ∃ p, p = j + 1 := ⟨_, rfl⟩
      have q1 : (j : Int) + 1 = p1 := by omega
      obtain ⟨x, hxx⟩ : ∃ x, x = (J4 s p1).1 := ⟨_, rfl⟩
      obtain ⟨y, hyy⟩ : ∃ y, y = (J4 s p1).2 := ⟨_, rfl⟩
      have hN : J8 s j = (x, y) := by unfold J8; rw [HY.out, if_pos (show ((92 : Nat) : Int) = 92 from rfl), <- hp1, hxx, hyy]
      rw [hN] at HT;obtain ⟨hn1, hn2, hn3⟩ := Jae s p1;rw [<- hxx] at hn2 hn3;rw [<- hyy] at hn1;have HXY := hid (And.intro hxx hyy);have HN1 := hid hn1;clear hxx hyy hN hn1 hp1;by_cases y0 : y < 0
      ·have Hf := hid (show Jr s i = (⟨#[]⟩, -1) by rw [HT.out]; exact if_pos y0)
       go_wp2_with fail
       refine (Zk s p1 _ hs (by omega) (HVT.out.1.below HBr.out) (HVT.out.2.below HBr.out)).mono ?_;rintro e w1 ⟨rfl, hb⟩;have HB1 := hid (HBr.out.trans (hb.mono HBr.out.size));rw [<- HXY.out.1, <- HXY.out.2];go_wp2_with fail
       go_ret2
       exact ⟨by rw [Hf.out]; rfl, HB1.out⟩
      obtain ⟨q, rfl⟩ : ∃ q : Nat, y = q := ⟨y.toNat, by omega⟩
      have hjq : j < q := by have := HN1.out; omega
      have hqs : q <= s.size := by have := HN1.out; omega
      have HE := hid (show Jr s i = Vo s q (M ++ (Jq x).data.toList) by rw [HT.out]; exact if_neg y0);have d0 : decide ((q : Int) < 0) = false := JmF y0;clear y0;go_wp2_with fail
      refine (Zk s p1 _ hs (by omega) (HVT.out.1.below HBr.out) (HVT.out.2.below HBr.out)).mono ?_;rintro e w2 ⟨rfl, hb2⟩;have B2 : Below w.heap.size w w2 := HBr.out.trans (hb2.mono (HBr.out).size)
     rotate_left
     focus
      have f92 : ((b : Int) == 92) = false := JmH e92;obtain ⟨x, hxx⟩ : ∃ x, x = (JI s j).1 := ⟨_, rfl⟩
      obtain ⟨y, hyy⟩ : ∃ y, y = (JI s j).2 := ⟨_, rfl⟩
      have hN : J8 s j = if x < 32 then (0, -1) else (x, y) := by unfold J8; rw [HY.out, if_neg e92, hxx, hyy]
      rw [hN] at HT;obtain ⟨hn1, hn2, hn3⟩ := W2 s j;rw [<- hxx] at hn2 hn3;rw [<- hyy] at hn1;have HXY := hid (And.intro hxx hyy);have HN1 := hid hn1;clear hxx hyy hN hn1 e92 e34;by_cases x32 : x < 32
      ·rw [if_pos x32] at HT
       have Hf := hid (show Jr s i = (⟨#[]⟩, -1) by rw [HT.out]; rfl);go_wp2_with fail
       refine (Yg s j _ (by omega) (by omega) (HVT.out.2.below HBr.out)).mono ?_;rintro e w1 ⟨rfl, hb⟩;have HB1 := hid (HBr.out.trans (hb.mono HBr.out.size));rw [<- HXY.out.1, <- HXY.out.2];go_wp2_with fail
       go_ret2
       exact ⟨by rw [Hf.out]; rfl, HB1.out⟩
      rw [if_neg x32] at HT;have d32 : decide (x < 32) = false := JmF x32;clear x32;by_cases y0 : y < 0
      ·have Hf := hid (show Jr s i = (⟨#[]⟩, -1) by rw [HT.out]; exact if_pos y0)
       go_wp2_with fail
       refine (Yg s j _ (by omega) (by omega) (HVT.out.2.below HBr.out)).mono ?_;rintro e w1 ⟨rfl, hb⟩;have HB1 := hid (HBr.out.trans (hb.mono HBr.out.size));rw [<- HXY.out.1, <- HXY.out.2];go_wp2_with fail
       go_ret2
       exact ⟨by rw [Hf.out]; rfl, HB1.out⟩
      obtain ⟨q, rfl⟩ : ∃ q : Nat, y = q := ⟨y.toNat, by omega⟩
      have hjq : j < q := by have := HN1.out; omega
      have hqs : q <= s.size := by have := HN1.out; omega
      have HE := hid (show Jr s i = Vo s q (M ++ (Jq x).data.toList) by rw [HT.out]; exact if_neg y0);have d0 : decide ((q : Int) < 0) = false := JmF y0;clear y0;go_wp2_with fail
      refine (Yg s j _ (by omega) (by omega) (HVT.out.2.below HBr.out)).mono ?_;rintro e w2 ⟨rfl, hb2⟩;have B2 : Below w.heap.size w w2 := HBr.out.trans (hb2.mono HBr.out.size)
     rotate_left
     all_goals
      have hR2 := JgM HO.out B2 hb2;rw [<- HXY.out.1, <- HXY.out.2];go_wp2_with fail
      refine (JaG x _ (by omega)).mono ?_;rintro e w9 ⟨rfl, rfl⟩;have htz := VT x;have hM4 : n + (Jq x).size <= 4 * q := by omega
      have HB2 := hid B2;have hsz2 := B2.size;clear hb2 B2;go_wp2_with (at_builtin; refine wpList_append_own_string _ rfl (.tmp 56) (.tmp 58) 28 9 rfl w.heap.size 5 i0 Tryz.underlying28 Tryz.underlying9 hi hz0 hz1 hz2 _ n _ rfl hR2 (Jq x) rfl (by simp only [maxLen]; omega) (by omega) hsz2 ?_; intro v5 w5 hR5 hg5 _; obtain ⟨A5, c5, rfl⟩ := JP hR5; rw [Qf] at hR5)
      have HB5 := Below.grown HB2.out hg5 hsz2 (fun k hk => (World.ownsRow.lt hR2 k hk).1);go_roundw
      case rel => exact ⟨q, M ++ (Jq x).data.toList, A5, c5, n + (Jq x).size, by omega, rfl, by rw [List.length_append, HNn.out, Array.length_toList]; rfl, rfl, hR5, hM4, HE.out, HB5⟩
      case measure => simp [Lib.intOf]; omega
    have Hf := hid (show Jr s i = (⟨#[]⟩, -1) by rw [HG.out]; exact Wp (by omega));go_wp2_with fail
    go_ret2
    exact ⟨by rw [Hf.out]; rfl, HBr.out⟩
  have HQ := hid (show Jr s i = (⟨#[]⟩, -1) by unfold Jr; rw [if_pos hii, hby, if_neg e34]);have f34 : ((b : Int) == 34) = false := JmH e34;have n34 : ((b : Int) != 34) = true := bne_iff_ne.2 e34;clear e34
 rotate_left
 focus
  have HQ := hid (show Jr s i = (⟨#[]⟩, -1) by unfold Jr; rw [if_neg (by omega)]);have hz0 : (0 : Int) <= i := by omega
 rotate_left
 all_goals
  go_enter Tryz.func180, Tryz.ntmps180
  go_wp2_with fail
  go_ret2
  exact ⟨by rw [HQ.out]; rfl, Below.refl _ _⟩
def BufB (base : Nat) (w : World) (M : List UInt8) (v : Value) : Prop := w.ownsRow base 5 1 v M.length (Lib.strCells ⟨M.toArray⟩)
theorem BufB.below {base : Nat} {w w' : World} {M : List UInt8} {v : Value} (h : BufB base w M v) (hb : Below w.heap.size w w') : BufB base w' M v := Jh h (fun q hq => hb.block q (World.ownsRow.lt h q hq).2)
theorem JiI (l : List UInt8) : ∀ x ∈ Lib.strCells ⟨l.toArray⟩, x.oneCell' = true := by
 intro x hx;unfold Lib.strCells at hx;rw [List.mem_map] at hx;obtain ⟨b, -, rfl⟩ := hx;rfl
theorem Jh8 (l : List UInt8) : (Lib.strCells ⟨l.toArray⟩).length = l.length := by unfold Lib.strCells; rw [List.length_map]
theorem Jek {w : World} {bs : List UInt8} {k : Nat} (hk : k = bs.length) (hm : k <= 1048576) {cs : List Value} (hcs : cs = Lib.strCells ⟨bs.toArray⟩) :
  (w.alloc (.cells cs.toArray 5)).ownsRow w.heap.size 5 1 (.slice (some ⟨w.heap.size, 0, none⟩) k k) k (Lib.strCells ⟨bs.toArray⟩) := by
 have hl := Jh8 bs;subst hcs hk;exact ⟨by rw [hl, Nat.mul_one], .inr ⟨w.heap.size, bs.length, (Lib.strCells ⟨bs.toArray⟩).toArray, rfl, Nat.le_refl _, heap_alloc_new w _, Nat.le_refl _, by unfold maxLen; omega, by rw [List.size_toArray, hl]; omega, by rw [List.take_of_length_le (by simp [hl])]⟩⟩
theorem Vy (wx : World) (base n c k : Nat) (A : Option Addr) (M bs : List UInt8) (cs : List Value) (hn : n = M.length) (h : BufB base wx M (.slice A n c)) (hk : k = bs.length) (hcs : cs = Lib.strCells ⟨bs.toArray⟩) (hsz : n + k <= 1073741824) (hk2 : k <= 1048576) (hbase : base <= wx.heap.size) :
  ∃ (A' : Option Addr) (c' : Nat) (w' : World), (Builtin.append_ #[28, 28] 28 #[.slice A n c, .slice (some ⟨wx.heap.size, 0, none⟩) k k]).run Tryz.prog (wx.alloc (.cells cs.toArray 5)) = .ok (.slice A' (n + k) c') w' /\ BufB base w' (M ++ bs) (.slice A' (n + k) c') /\ Below base wx w' := by
 obtain ⟨i0, hi, hz0, hz1, hz2⟩ := info_parts (show (Tryz.prog.info? 5).map (fun i => (i.zero, i.size, i.bytes)) = some (some (.int .u8 0), 1, 1) from by kernel_rfl);unfold BufB at h;rw [<- hn] at h;have hb : Below wx.heap.size wx (wx.alloc (.cells cs.toArray 5)) := Jj;have h' := Jh h (fun q hq => hb.block q (World.ownsRow.lt h q hq).2);obtain ⟨v', w', hr, h2, h3, h5⟩ := Vl (P := Tryz.prog) (wx.alloc (.cells cs.toArray 5)) 28 28 base 5 i0 (.int .u8 0) 1 1 Tryz.underlying28 hi hz0 hz1 hz2 rfl (by decide) (.slice A n c) n _ h' wx.heap.size k _ _ (Jek hk hk2 hcs) (JiI bs) (by unfold maxLen; omega) (by omega) (by simp; omega)
 obtain ⟨A', c', rfl⟩ := JP h2;refine ⟨A', c', w', hr, ?_, Below.grown (hb.mono hbase) h3 (by simp; omega) (fun q hq => (World.ownsRow.lt h q hq).1)⟩;unfold BufB;rw [List.length_append, <- hn, <- hk];rw [Qf] at h2;exact h2
def Jd8 (b : Nat) : Int := if b = 8 then 0 else if b = 12 then 1 else if b = 10 then 2 else if b = 13 then 3 else if b = 9 then 4 else -1
theorem Jjt : ∀ i : Fin 256, Lib.indexByte [8, 12, 10, 13, 9] (UInt8.ofNat i.val) = Jd8 i.val := by decide
theorem Q8 (b : Nat) (hb : b < 256) (w : World) : Calls Tryz.prog 130 #[.string { data := #[8, 12, 10, 13, 9] }, .int .u8 b] w fun e w' => e = .returned (.int .i64 (Jd8 b)) /\ w = w' := by
 have h := QB { data := #[8, 12, 10, 13, 9] } (UInt8.ofNat b) w;have e1 : (UInt8.ofNat b).toNat = b := by rw [UInt8.toNat_ofNat']; exact Nat.mod_eq_of_lt hb
 rw [e1] at h;exact h.mono (fun _ _ h => ⟨h.1.trans (congrArg (fun z => Ending.returned (Value.int .i64 z)) (Jjt ⟨b, hb⟩)), h.2⟩)
theorem Jml : ∀ (x : Nat) (h : x < 16), (({ data := #[48, 49, 50, 51, 52, 53, 54, 55, 56, 57, 97, 98, 99, 100, 101, 102] } : ByteArray)[x]'h).toNat = (Y4 x).toNat := by
 intro x h;have h16 : x = 0 ∨ x = 1 ∨ x = 2 ∨ x = 3 ∨ x = 4 ∨ x = 5 ∨ x = 6 ∨ x = 7 ∨ x = 8 ∨ x = 9 ∨ x = 10 ∨ x = 11 ∨ x = 12 ∨ x = 13 ∨ x = 14 ∨ x = 15 := by omega
 rcases h16 with rfl | rfl | rfl | rfl | rfl | rfl | rfl | rfl | rfl | rfl | rfl | rfl | rfl | rfl | rfl | rfl <;> rfl
theorem JiV {s : ByteArray} {k : Nat} {c : UInt8} (h : s.data.toList[k]? = some c) : (s.data.toList.take (k + 1)).flatMap qB = (s.data.toList.take k).flatMap qB ++ qB c := by
 rw [List.take_add_one, h];simp
theorem JcC (s : ByteArray) (w : World) (hs : s.size <= 1048576) (hT : Tabs w) :
  Calls Tryz.prog 163 #[.string s] w fun e w' => e = .returned (.string (JN s)) /\ Below w.heap.size w w' := by
 have HU := hid (ZB s w (by omega) hT);obtain ⟨r, hr⟩ : ∃ r, r = JN s := ⟨_, rfl⟩
 rw [<- hr];clear hT;rcases hu : Qt s with _ | _
 ·have HR := hid (show r = ⟨#[]⟩ by rw [hr]; unfold JN; rw [hu]; rfl)
  clear hr;go_enter Tryz.func163, Tryz.ntmps163
  go_wp2_with (go_at_call 222; refine HU.out.mono ?_; rintro e w1 ⟨rfl, hb⟩; (first | (have hcu2 := Cum.join hcu hb; (try clear hcu); (try clear hc); (try clear hfz); (try clear hsz); (try clear hs0); (try clear hs1); (try clear hs2); (try clear hs3); (try clear hs4); ) | have hcu2 := Cum.mk hb); have hcu := hcu2; clear hcu2; obtain ⟨hc, hfz⟩ := JE hcu.h; have hsz := hcu.h.size; (try simp at hsz); (try have hs0 := Jd hsz); (try (have hs1 := Jc hsz; (try (have hs2 := Jc hs1; (try (have hs3 := Jc hs2; (try have hs4 := Jc hs3))))))))
  go_ret
  exact ⟨by rw [HR.out]; rfl, Jj⟩
 have HR := hid (show r = ⟨(34 :: s.data.toList.flatMap qB ++ [34]).toArray⟩ by rw [hr]; unfold JN; rw [hu]; rfl);clear hr;go_enter Tryz.func163, Tryz.ntmps163
 go_wp2_with fail
 refine HU.out.mono ?_;rintro e w1 ⟨rfl, hb1⟩;have HB1 := hid hb1;clear hb1;go_wp2_with fail
 go_loopw [3, 13] (fun s3 v wr => ∃ (k : Nat) (M : List UInt8) (A : Option Addr) (n c : Nat), k <= s.size /\ v = .int .i64 k /\ M = 34 :: (s.data.toList.take k).flatMap qB /\ n = M.length /\ n <= 6 * k + 1 /\ s3 = .slice A n c /\ BufB w.heap.size wr M (.slice A n c) /\ Below w.heap.size w wr) (fun _ v _ => s.size - (Lib.intOf v).toNat)
 case atStart => exact ⟨0, [34], some ⟨w1.heap.size, 0, none⟩, 1, 1, Nat.zero_le _, rfl, rfl, rfl, by omega, rfl, VP (Jek (bs := [34]) (k := 1) rfl (by decide) rfl) HB1.out.size, HB1.out.trans (Below.mono Jj HB1.out.size)⟩
 case round =>
  obtain ⟨k, M, A, n, c, hk, rfl, hM, hn, hn6, rfl, hbuf, hbr⟩ := hrel;have HM := hid hM;have HN := hid hn;have HBf := hid hbuf;have HBr := hid hbr;have hws := hbr.size;clear hM hn hbuf hbr;by_cases hlt : k < s.size
  ·have hk0 : (0 : Int) <= k := by omega
   have hk1 : (k : Int) < s.size := by omega
   obtain ⟨b, hb⟩ : ∃ b : Nat, b = (s.get! k).toNat := ⟨_, rfl⟩
   have hx : (s[k]'hlt).toNat = b := by rw [hb]; exact Q2 s k hlt
   have hb256 : b < 256 := by rw [<- hx]; exact UInt8.toNat_lt _
   have HQ := hid (show (s.data.toList.take (k + 1)).flatMap qB = (s.data.toList.take k).flatMap qB ++ qN b by
    rw [JiV (c := s[k]'hlt) (by rw [Array.getElem?_toList]; exact Array.getElem?_eq_getElem hlt), <- hx]; rfl)
   have hql := JgR b;clear hb;obtain ⟨m, hm⟩ : ∃ m, m = (qN b).length := ⟨_, rfl⟩
   rw [<- hm] at hql;have HMm := hid hm;clear hm;go_upto_block 1 with fail
   go_cut [3] from 15 to 55 (fun s3 wx => ∃ (A' : Option Addr) (c' : Nat), s3 = .slice A' (n + m) c' /\ BufB w.heap.size wx (M ++ qN b) (.slice A' (n + m) c') /\ Below w.heap.size w wx)
   case first =>
    by_cases e34 : b = 34 ∨ b = 92
    ·have f1 : ((b : Int) == 34) = true ∨ ((b : Int) == 34) = false /\ ((b : Int) == 92) = true := by
      rcases e34 with rfl | rfl
      ·exact .inl rfl
      exact .inr ⟨rfl, rfl⟩
     rcases f1 with f1 | ⟨f1, f2⟩
     all_goals
      obtain ⟨A', c', w2, hr2, hb2, hbb2⟩ := Vy wr w.heap.size n c 2 A M ([92, UInt8.ofNat b]) [.int .u8 92, .int .u8 (b : Int)] HN.out HBf.out rfl (by simp [Lib.strCells, Nat.mod_eq_of_lt hb256]) (by omega) (by decide) hws;have HB2 := hid (And.intro hb2 (HBr.out.trans hbb2));have HQn := hid (show qN b = [92, UInt8.ofNat b] from by unfold qN; rw [if_pos e34]);have hm2 : m = 2 := by rw [HMm.out, HQn.out]; rfl
      subst hm2;clear hb2 hbb2;go_wp2_with (first | (go_at_call 130; refine (Q8 b hb256 _).mono ?_; rintro e w9 ⟨rfl, rfl⟩) | (at_builtin; refine Ji rfl (.tmp 32) (.tmp 34) 28 rfl _ _ _ w2 rfl rfl hr2 ?_))
      go_meet
      exact ⟨A', c', rfl, by rw [HQn.out]; exact HB2.out.1, HB2.out.2⟩
    have f1 : ((b : Int) == 34) = false := JmH (by omega);have f2 : ((b : Int) == 92) = false := JmH (by omega);by_cases e8 : b = 8 ∨ b = 12 ∨ b = 10 ∨ b = 13 ∨ b = 9
    ·skip
     rcases e8 with rfl | rfl | rfl | rfl | rfl
     focus
      obtain ⟨A', c', w2, hr2, hb2, hbb2⟩ := Vy wr w.heap.size n c 2 A M ([92, 98]) [.int .u8 92, .int .u8 98] HN.out HBf.out rfl rfl (by omega) (by decide) hws;have HB2 := hid (And.intro hb2 (HBr.out.trans hbb2));have HQn := hid (show qN 8 = [92, 98] from rfl);have hm2 : m = 2 := by rw [HMm.out, HQn.out]; rfl
      subst hm2;have HK := hid (show Jd8 8 = 0 from rfl);clear hb2 hbb2 e34;go_wp2_with (first | (go_at_call 130; refine (Q8 8 hb256 _).mono ?_; rintro e w9 ⟨rfl, rfl⟩; rw [HK.out]) | (at_builtin; refine Ji rfl (.tmp 39) (.tmp 42) 28 rfl _ _ _ w2 rfl rfl hr2 ?_))
     rotate_left
     focus
      obtain ⟨A', c', w2, hr2, hb2, hbb2⟩ := Vy wr w.heap.size n c 2 A M ([92, 102]) [.int .u8 92, .int .u8 102] HN.out HBf.out rfl rfl (by omega) (by decide) hws;have HB2 := hid (And.intro hb2 (HBr.out.trans hbb2));have HQn := hid (show qN 12 = [92, 102] from rfl);have hm2 : m = 2 := by rw [HMm.out, HQn.out]; rfl
      subst hm2;have HK := hid (show Jd8 12 = 1 from rfl);clear hb2 hbb2 e34;go_wp2_with (first | (go_at_call 130; refine (Q8 12 hb256 _).mono ?_; rintro e w9 ⟨rfl, rfl⟩; rw [HK.out]) | (at_builtin; refine Ji rfl (.tmp 39) (.tmp 42) 28 rfl _ _ _ w2 rfl rfl hr2 ?_))
     rotate_left
     focus
      obtain ⟨A', c', w2, hr2, hb2, hbb2⟩ := Vy wr w.heap.size n c 2 A M ([92, 110]) [.int .u8 92, .int .u8 110] HN.out HBf.out rfl rfl (by omega) (by decide) hws;have HB2 := hid (And.intro hb2 (HBr.out.trans hbb2));have HQn := hid (show qN 10 = [92, 110] from rfl);have hm2 : m = 2 := by rw [HMm.out, HQn.out]; rfl
      subst hm2;have HK := hid (show Jd8 10 = 2 from rfl);clear hb2 hbb2 e34;go_wp2_with (first | (go_at_call 130; refine (Q8 10 hb256 _).mono ?_; rintro e w9 ⟨rfl, rfl⟩; rw [HK.out]) | (at_builtin; refine Ji rfl (.tmp 39) (.tmp 42) 28 rfl _ _ _ w2 rfl rfl hr2 ?_))
     rotate_left
     focus
      obtain ⟨A', c', w2, hr2, hb2, hbb2⟩ := Vy wr w.heap.size n c 2 A M ([92, 114]) [.int .u8 92, .int .u8 114] HN.out HBf.out rfl rfl (by omega) (by decide) hws;have HB2 := hid (And.intro hb2 (HBr.out.trans hbb2));have HQn := hid (show qN 13 = [92, 114] from rfl);have hm2 : m = 2 := by rw [HMm.out, HQn.out]; rfl
      subst hm2;have HK := hid (show Jd8 13 = 3 from rfl);clear hb2 hbb2 e34;go_wp2_with (first | (go_at_call 130; refine (Q8 13 hb256 _).mono ?_; rintro e w9 ⟨rfl, rfl⟩; rw [HK.out]) | (at_builtin; refine Ji rfl (.tmp 39) (.tmp 42) 28 rfl _ _ _ w2 rfl rfl hr2 ?_))
     rotate_left
     focus
      obtain ⟨A', c', w2, hr2, hb2, hbb2⟩ := Vy wr w.heap.size n c 2 A M ([92, 116]) [.int .u8 92, .int .u8 116] HN.out HBf.out rfl rfl (by omega) (by decide) hws;have HB2 := hid (And.intro hb2 (HBr.out.trans hbb2));have HQn := hid (show qN 9 = [92, 116] from rfl);have hm2 : m = 2 := by rw [HMm.out, HQn.out]; rfl
      subst hm2;have HK := hid (show Jd8 9 = 4 from rfl);clear hb2 hbb2 e34;go_wp2_with (first | (go_at_call 130; refine (Q8 9 hb256 _).mono ?_; rintro e w9 ⟨rfl, rfl⟩; rw [HK.out]) | (at_builtin; refine Ji rfl (.tmp 39) (.tmp 42) 28 rfl _ _ _ w2 rfl rfl hr2 ?_))
     rotate_left
     all_goals
      go_meet
      exact ⟨A', c', rfl, by rw [HQn.out]; exact HB2.out.1, HB2.out.2⟩
    have HK := hid (show Jd8 b = -1 by unfold Jd8; rw [if_neg (by omega), if_neg (by omega), if_neg (by omega), if_neg (by omega), if_neg (by omega)]);by_cases e32 : b < 32
    ·have f3 : decide ((b : Int) < 32) = true := JmG (by omega)
     obtain ⟨x, hx1⟩ : ∃ x : Nat, x = b / 16 := ⟨_, rfl⟩
     obtain ⟨y, hy1⟩ : ∃ y : Nat, y = b % 16 := ⟨_, rfl⟩
     have hx2 : (b : Int) / 16 = x := by omega
     have hy2 : (b : Int) % 16 = y := by omega
     have hy4 : (b : Int).tmod 16 = y := by rw [Int.tmod_eq_emod_of_nonneg (by omega)]; omega
     have hx3 : x < 16 := by omega
     have hy3 : y < 16 := by omega
     have hz1 : (0 : Int) <= x := by omega
     have hz2 : (0 : Int) <= y := by omega
     have hz3 : (x : Int) < 16 := by omega
     have hz4 : (y : Int) < 16 := by omega
     have hwx : IntKind.u8.wrap (x : Int) = x := by rw [IntKind.wrap_u8]; omega
     have hwy : IntKind.u8.wrap (y : Int) = y := by rw [IntKind.wrap_u8]; omega
     have hsx : x < ({ data := #[48, 49, 50, 51, 52, 53, 54, 55, 56, 57, 97, 98, 99, 100, 101, 102] } : ByteArray).size := hx3;have hsy : y < ({ data := #[48, 49, 50, 51, 52, 53, 54, 55, 56, 57, 97, 98, 99, 100, 101, 102] } : ByteArray).size := hy3;obtain ⟨A', c', w2, hr2, hb2, hbb2⟩ := Vy wr.drew w.heap.size n c 6 A M [92, 117, 48, 48, Y4 x, Y4 y] [.int .u8 92, .int .u8 117, .int .u8 48, .int .u8 48, .int .u8 ((({ data := #[48, 49, 50, 51, 52, 53, 54, 55, 56, 57, 97, 98, 99, 100, 101, 102] } : ByteArray)[x]'(hsx)).toNat : Nat), .int .u8 ((({ data := #[48, 49, 50, 51, 52, 53, 54, 55, 56, 57, 97, 98, 99, 100, 101, 102] } : ByteArray)[y]'(hsy)).toNat : Nat)] HN.out (HBf.out.below (Below.refl _ _).drew) rfl (by rw [Jml x hx3, Jml y hy3]; rfl) (by omega) (by decide) hws
     have HB2 := hid (And.intro hb2 ((HBr.out.trans (Below.mono (Below.refl _ _).drew HBr.out.size)).trans hbb2));have HQn := hid (show qN b = [92, 117, 48, 48, Y4 x, Y4 y] by unfold qN; rw [if_neg e34, if_neg (by omega), if_neg (by omega), if_neg (by omega), if_neg (by omega), if_neg (by omega), if_pos e32, hx1, hy1]);have hm2 : m = 6 := by rw [HMm.out, HQn.out]; rfl
     subst hm2;clear hx1 hy1 hb2 hbb2;go_wp2_with (first | (go_at_call 130; refine (Q8 _ hb256 _).mono ?_; rintro e w9 ⟨rfl, rfl⟩; rw [HK.out]))
     go_region_law (first | (refine UB rfl (.tmp 47) (.tmp 54) 28 rfl _ _ _ w2 rfl rfl hr2 ?_))
     all_goals
      (try go_wp2_with fail)
      go_meet
      exact ⟨A', c', rfl, by rw [HQn.out]; exact HB2.out.1, HB2.out.2⟩
    have f3 : decide ((b : Int) < 32) = false := JmF (by omega);obtain ⟨A', c', w2, hr2, hb2, hbb2⟩ := Vy wr w.heap.size n c 1 A M ([UInt8.ofNat b]) [.int .u8 (b : Int)] HN.out HBf.out rfl (by simp [Lib.strCells, Nat.mod_eq_of_lt hb256]) (by omega) (by decide) hws;have HB2 := hid (And.intro hb2 (HBr.out.trans hbb2));have HQn := hid (show qN b = [UInt8.ofNat b] from by unfold qN; rw [if_neg e34, if_neg (by omega), if_neg (by omega), if_neg (by omega), if_neg (by omega), if_neg (by omega), if_neg e32])
    have hm2 : m = 1 := by rw [HMm.out, HQn.out]; rfl
    subst hm2;clear hb2 hbb2;go_wp2_with (first | (go_at_call 130; refine (Q8 b hb256 _).mono ?_; rintro e w9 ⟨rfl, rfl⟩; rw [HK.out]) | (at_builtin; refine Ji rfl (.tmp 21) (.tmp 23) 28 rfl _ _ _ w2 rfl rfl hr2 ?_))
    go_meet
    exact ⟨A', c', rfl, by rw [HQn.out]; exact HB2.out.1, HB2.out.2⟩
   case rest =>
    obtain ⟨A', c', rfl, hbf, hbb⟩ := hcut;have HB' := hid hbf;have HX := hid (show M ++ qN b = 34 :: (s.data.toList.take (k + 1)).flatMap qB by rw [HM.out, HQ.out]; rfl);clear hbf hx;go_wp2_with fail
    go_roundw
    case rel => exact ⟨k + 1, M ++ qN b, A', n + m, c', by omega, by go_num, HX.out, by rw [List.length_append, HN.out, HMm.out], by omega, rfl, HB'.out, hbb⟩
    case measure => simp [Lib.intOf]; omega
  obtain rfl : k = s.size := by omega
  have HX := hid (show r = ⟨(M ++ [34]).toArray⟩ by rw [HR.out, HM.out, List.take_of_length_le (by rw [Array.length_toList]; exact Nat.le_refl _)]);obtain ⟨A', c', w2, hr2, hb2, hbb2⟩ := Vy wr w.heap.size n c 1 A M [34] [.int .u8 34] HN.out HBf.out rfl rfl (by omega) (by decide) hws;have hn1 : n + 1 = (M ++ [34]).length := by rw [List.length_append, <- HN.out]; rfl
  have hcv := V7 hn1 (show w2.ownsRow w.heap.size 5 1 (.slice A' (n + 1) c') (n + 1) (Lib.strCells ⟨(M ++ [34]).toArray⟩) from hn1 ▸ hb2);have HN1 := hid hn1;clear hn1 hb2;go_wp2_with (at_builtin; refine Ji rfl (.tmp 57) (.tmp 58) 28 rfl _ _ _ w2 rfl rfl hr2 ?_)
  go_ret
  exact ⟨by rw [HX.out]; rfl, HBr.out.trans hbb2⟩
theorem Jhm (x : Nat) (h : x < 16) : ((Y4 x).toNat : Int) = if x < 10 then 48 + (x : Int) else 87 + (x : Int) := by
 have h16 : x = 0 ∨ x = 1 ∨ x = 2 ∨ x = 3 ∨ x = 4 ∨ x = 5 ∨ x = 6 ∨ x = 7 ∨ x = 8 ∨ x = 9 ∨ x = 10 ∨ x = 11 ∨ x = 12 ∨ x = 13 ∨ x = 14 ∨ x = 15 := by omega
 rcases h16 with rfl | rfl | rfl | rfl | rfl | rfl | rfl | rfl | rfl | rfl | rfl | rfl | rfl | rfl | rfl | rfl <;> rfl
theorem Jcn (x : Nat) (w : World) (h : x < 16) : Calls Tryz.prog 218 #[.int .i64 (x : Nat)] w fun e w' => e = .returned (.int .u8 ((Y4 x).toNat : Nat)) /\ w = w' := by
 have hf := Jhm x h;by_cases h10 : x < 10
 focus
  rw [if_pos h10] at hf;have HF := hid hf;have d1 : decide ((x : Int) < 10) = true := JmG (by omega);have d2 : decide (x < 10) = true := JmG h10
 rotate_left
 focus
  rw [if_neg h10] at hf;have HF := hid hf;have d1 : decide ((x : Int) < 10) = false := JmF (by omega);have d2 : decide (x < 10) = false := JmF h10
 rotate_left
 all_goals
  clear hf h10;go_enter Tryz.func218, Tryz.ntmps218
  go_wp2_with fail
  go_ret
  exact ⟨by rw [HF.out]; go_num, rfl⟩
theorem Jkk {r : Nat} (h : r < 128) : (Jq r).data.toList = [UInt8.ofNat r] := by
 refine Xb ?_;unfold J5;rw [if_neg (by omega), if_pos h];simp [Nat.mod_eq_of_lt (show r < 256 by omega)]
theorem Jkf {r : Nat} (h0 : ¬ (r = 34 ∨ r = 92)) (h1 : ¬ r < 32) : qR r = (Jq r).data.toList := by
 unfold qR;by_cases h : r < 128
 ·rw [if_pos h, Jkk h]
  unfold qN;rw [if_neg h0, if_neg (by omega), if_neg (by omega), if_neg (by omega), if_neg (by omega), if_neg (by omega), if_neg h1]
 rw [if_neg h]
theorem JjS {r : Nat} (h : r < 128) : qR r = qN r := by unfold qR; rw [if_pos h]
theorem Ja8 {s : ByteArray} : ∀ (f i : Nat) (rs : List Nat), s.size - i <= f -> JH s i = some rs -> rs.length + i <= s.size ∨ rs = []
 | f, i, rs, hf, h => by
  by_cases hi : i < s.size
  ·by_cases hd : Utf8.decode s i = (65533, 1)
   ·rw [QQ hi hd] at h; cases h
   rw [Qu hi hd] at h;have hk := JT s i hi;rcases hr : JH s (i + (Utf8.decode s i).2) with _ | rs'
   ·rw [hr] at h; cases h
   rw [hr] at h;obtain rfl := Option.some.inj h;cases f with
   | zero => omega
   | succ f =>
    rcases Ja8 f (i + (Utf8.decode s i).2) rs' (by omega) hr with h1 | rfl
    ·exact .inl (by simp only [List.length_cons]; omega)
    exact .inl (by simp only [List.length_cons, List.length_nil]; omega)
  rw [QE hi] at h;exact .inr (Option.some.inj h).symm
theorem Jey {s : ByteArray} : ∀ (f i : Nat) (rs : List Nat), s.size - i <= f -> JH s i = some rs -> ∀ r ∈ rs, r <= 1114111
 | f, i, rs, hf, h => by
  by_cases hi : i < s.size
  ·by_cases hd : Utf8.decode s i = (65533, 1)
   ·rw [QQ hi hd] at h; cases h
   rw [Qu hi hd] at h;have hk := JT s i hi;rcases hr : JH s (i + (Utf8.decode s i).2) with _ | rs'
   ·rw [hr] at h; cases h
   rw [hr] at h;obtain rfl := Option.some.inj h;cases f with
   | zero => omega
   | succ f =>
    intro r hrr;rcases List.mem_cons.1 hrr with rfl | hrr
    ·omega
    exact Jey f (i + (Utf8.decode s i).2) rs' (by omega) hr r hrr
  rw [QE hi] at h;obtain rfl := Option.some.inj h;intro r hrr;cases hrr
theorem Jg1 {rs : List Nat} {k r : Nat} (h : rs[k]? = some r) : (rs.take (k + 1)).flatMap qR = (rs.take k).flatMap qR ++ qR r := by
 rw [List.take_add_one, h];simp
theorem Jcr (s : ByteArray) (w : World) (hs : s.size <= 1048576) :
  Calls Tryz.prog 161 #[.string s] w fun e w' => e = .returned (.string (JN s)) /\ Below w.heap.size w w' := by
 obtain ⟨i0, hi, hz0, hz1, hz2⟩ := info_parts (show (Tryz.prog.info? 5).map (fun i => (i.zero, i.size, i.bytes)) = some (some (.int .u8 0), 1, 1) from by kernel_rfl);have HU := hid (UC s w hs);obtain ⟨r, hr⟩ : ∃ r, r = JN s := ⟨_, rfl⟩
 rw [<- hr];rcases hu : JH s 0 with _ | rs
 ·have HR := hid (show r = ⟨#[]⟩ by rw [hr]; exact Je2 hu)
  have hub : Qt s = false := by unfold Qt; rw [hu]; rfl
  clear hr hu;go_enter Tryz.func161, Tryz.ntmps161
  go_wp2_with fail
  refine HU.out.mono ?_;rintro e w1 ⟨M, A, c, rfl, -, -, hb1⟩;rw [hub];go_wp2_with fail
  go_ret
  exact ⟨by rw [HR.out]; rfl, hb1⟩
 have HR := hid (show r = ⟨(34 :: rs.flatMap qR ++ [34]).toArray⟩ by rw [hr]; exact Xt hu);have hub : Qt s = true := by unfold Qt; rw [hu]; rfl
 have hbd := Ja8 s.size 0 rs (by omega) hu
 have hlen : rs.length <= 1048576 := by
  rcases hbd with h | h
  ·omega
  rw [h]; exact Nat.zero_le _
 have HMx := hid (Jey s.size 0 rs (by omega) hu);have HRS := hid hu;clear hr hu hbd;go_enter Tryz.func161, Tryz.ntmps161
 go_wp2_with fail
 refine HU.out.mono ?_;rintro e w1 ⟨M0, A0, c0, rfl, hM0, hrow, hb1⟩;obtain rfl := hM0 rs HRS.out;rw [hub];have HRow := hid hrow;have HB1 := hid hb1;have hs1 := hb1.size;clear hrow hb1 hM0;go_wp2_with fail
 go_loopw [5, 6] (fun s5 v wr => ∃ (k : Nat) (M : List UInt8) (A : Option Addr) (n c : Nat), k <= M0.length /\ v = .int .i64 k /\ M = 34 :: (M0.take k).flatMap qR /\ n = M.length /\ n <= 6 * k + 1 /\ s5 = .slice A n c /\ BufB w1.heap.size wr M (.slice A n c) /\ Below w1.heap.size w1 wr) (fun _ v _ => M0.length - (Lib.intOf v).toNat)
 case atStart => exact ⟨0, [34], some ⟨w1.heap.size, 0, none⟩, 1, 1, Nat.zero_le _, rfl, rfl, rfl, by omega, rfl, Jek (bs := [34]) (k := 1) rfl (by decide) rfl, Jj⟩
 case round =>
  obtain ⟨k, M, A, n, c, hk, rfl, hM, hn, hn6, rfl, hbuf, hbr⟩ := hrel;have HM := hid hM;have HN := hid hn;have HBf := hid hbuf;have HBr := hid hbr;have hws := hbr.size;clear hM hn hbuf hbr;by_cases hlt : k < M0.length
  ·have hk0 : (0 : Int) <= k := by omega
   have hk1 : (k : Int) < M0.length := by omega
   obtain ⟨x, hx⟩ := Jg hlt;obtain ⟨g, cap, cur, hv, -, hg, g1, g2, -, g4⟩ := RowE.row Jcf (HRow.out.below HBr.out) (by rw [XX]; omega);rw [XX] at hv;simp only [Value.slice.injEq] at hv;obtain ⟨rfl, -, rfl⟩ := hv
   have hc0 : wr.cell? ⟨g, k, none⟩ = some (.int .i64 (x : Nat)) := by
    rw [cell_of_row _ g _ cur _ _ hg];have := g4 k (x : Int) (by unfold zs; rw [List.getElem?_map, hx]; rfl) 0 (by decide)
    simpa [JdW] using this
   have hgl := Ja hg;have hxm := HMx.out x (List.mem_of_getElem? hx);have HQ := hid (Jg1 hx);have hql := JgN x;obtain ⟨m, hm⟩ : ∃ m, m = (qR x).length := ⟨_, rfl⟩
   rw [<- hm] at hql;have HMm := hid hm;have hR : wr.ownsRow w1.heap.size 5 1 (.slice A n c) n (Lib.strCells ⟨M.toArray⟩) := by have h := HBf.out; unfold BufB at h; rw [<- HN.out] at h; exact h
   clear hm hg g1 g2 g4 hx;go_upto_block 1 with fail
   go_cut [5] from 22 to 80 (fun s5 wx => ∃ (A' : Option Addr) (c' : Nat), s5 = .slice A' (n + m) c' /\ BufB w1.heap.size wx (M ++ qR x) (.slice A' (n + m) c') /\ Below w1.heap.size w1 wx)
   case first =>
    have hbuf : ∀ (bs : List UInt8) (A5 : Option Addr) (c5 q : Nat) (w5 : World), q = bs.length -> w5.ownsRow w1.heap.size 5 1 (.slice A5 (n + q) c5) (n + q) (Lib.strCells ⟨(M ++ bs).toArray⟩) -> BufB w1.heap.size w5 (M ++ bs) (.slice A5 (n + q) c5) := fun bs A5 c5 q w5 hq h => by
     unfold BufB;rw [List.length_append, <- HN.out, <- hq];exact h
    have HBuf := hid hbuf;clear hbuf;by_cases e34 : x = 34 ∨ x = 92
    ·have HQn := hid (show qR x = [92, UInt8.ofNat x] by rw [JjS (by omega)]; unfold qN; rw [if_pos e34])
     have hm2 : m = 2 := by rw [HMm.out, HQn.out]; rfl
     subst hm2;have hxw : IntKind.u8.wrap (x : Int) = x := by rw [IntKind.wrap_u8]; omega
     obtain ⟨A', c', w2, hr2, hb2, hbb2⟩ := Vy wr w1.heap.size n c 2 A M [92, UInt8.ofNat x] [.int .u8 92, .int .u8 (x : Int)] HN.out HBf.out rfl (by simp [Lib.strCells, Nat.mod_eq_of_lt (show x < 256 by omega)]) (by omega) (by decide) hws;have HB2 := hid (And.intro hb2 (HBr.out.trans hbb2));clear hb2 hbb2 hR;rcases e34 with rfl | rfl
     all_goals
      go_wp2_with (at_builtin; refine Ji rfl (.tmp 37) (.tmp 40) 28 rfl _ _ _ w2 rfl rfl hr2 ?_)
      go_meet
      exact ⟨A', c', rfl, by rw [HQn.out]; exact HB2.out.1, HB2.out.2⟩
    have f1 : ((x : Int) == 34) = false := JmH (by omega);have f2 : ((x : Int) == 92) = false := JmH (by omega);by_cases e8 : x = 8 ∨ x = 12 ∨ x = 10 ∨ x = 13 ∨ x = 9
    ·rcases e8 with rfl | rfl | rfl | rfl | rfl
     ·have HQn := hid (show qR 8 = [92, 98] from rfl)
      have hm2 : m = 2 := by rw [HMm.out, HQn.out]; rfl
      have hsz2 : (⟨#[92, 98]⟩ : ByteArray).size = 2 := rfl;subst hm2;clear e34;go_wp2_with (at_builtin; refine wpList_append_own_string _ rfl (.tmp 45) (.const (.string ⟨#[92, 98]⟩)) 28 9 rfl w1.heap.size 5 i0 Tryz.underlying28 Tryz.underlying9 hi hz0 hz1 hz2 _ n _ rfl hR ⟨#[92, 98]⟩ rfl (by simp only [maxLen]; omega) (by omega) hws ?_; intro v5 w5 hR5 hg5 _; obtain ⟨A5, c5, rfl⟩ := JP hR5; rw [Qf] at hR5)
      have HB5 := Below.grown HBr.out hg5 hws (fun q hq => (World.ownsRow.lt hR q hq).1);go_meet
      exact ⟨A5, c5, rfl, by rw [HQn.out]; exact HBuf.out [92, 98] A5 c5 2 w5 rfl hR5, HB5⟩
     ·have HQn := hid (show qR 12 = [92, 102] from rfl)
      have hm2 : m = 2 := by rw [HMm.out, HQn.out]; rfl
      have hsz2 : (⟨#[92, 102]⟩ : ByteArray).size = 2 := rfl;subst hm2;clear e34;go_wp2_with (at_builtin; refine wpList_append_own_string _ rfl (.tmp 50) (.const (.string ⟨#[92, 102]⟩)) 28 9 rfl w1.heap.size 5 i0 Tryz.underlying28 Tryz.underlying9 hi hz0 hz1 hz2 _ n _ rfl hR ⟨#[92, 102]⟩ rfl (by simp only [maxLen]; omega) (by omega) hws ?_; intro v5 w5 hR5 hg5 _; obtain ⟨A5, c5, rfl⟩ := JP hR5; rw [Qf] at hR5)
      have HB5 := Below.grown HBr.out hg5 hws (fun q hq => (World.ownsRow.lt hR q hq).1);go_meet
      exact ⟨A5, c5, rfl, by rw [HQn.out]; exact HBuf.out [92, 102] A5 c5 2 w5 rfl hR5, HB5⟩
     ·have HQn := hid (show qR 10 = [92, 110] from rfl)
      have hm2 : m = 2 := by rw [HMm.out, HQn.out]; rfl
      have hsz2 : (⟨#[92, 110]⟩ : ByteArray).size = 2 := rfl;subst hm2;clear e34;go_wp2_with (at_builtin; refine wpList_append_own_string _ rfl (.tmp 55) (.const (.string ⟨#[92, 110]⟩)) 28 9 rfl w1.heap.size 5 i0 Tryz.underlying28 Tryz.underlying9 hi hz0 hz1 hz2 _ n _ rfl hR ⟨#[92, 110]⟩ rfl (by simp only [maxLen]; omega) (by omega) hws ?_; intro v5 w5 hR5 hg5 _; obtain ⟨A5, c5, rfl⟩ := JP hR5; rw [Qf] at hR5)
      have HB5 := Below.grown HBr.out hg5 hws (fun q hq => (World.ownsRow.lt hR q hq).1);go_meet
      exact ⟨A5, c5, rfl, by rw [HQn.out]; exact HBuf.out [92, 110] A5 c5 2 w5 rfl hR5, HB5⟩
     ·have HQn := hid (show qR 13 = [92, 114] from rfl)
      have hm2 : m = 2 := by rw [HMm.out, HQn.out]; rfl
      have hsz2 : (⟨#[92, 114]⟩ : ByteArray).size = 2 := rfl;subst hm2;clear e34;go_wp2_with (at_builtin; refine wpList_append_own_string _ rfl (.tmp 60) (.const (.string ⟨#[92, 114]⟩)) 28 9 rfl w1.heap.size 5 i0 Tryz.underlying28 Tryz.underlying9 hi hz0 hz1 hz2 _ n _ rfl hR ⟨#[92, 114]⟩ rfl (by simp only [maxLen]; omega) (by omega) hws ?_; intro v5 w5 hR5 hg5 _; obtain ⟨A5, c5, rfl⟩ := JP hR5; rw [Qf] at hR5)
      have HB5 := Below.grown HBr.out hg5 hws (fun q hq => (World.ownsRow.lt hR q hq).1);go_meet
      exact ⟨A5, c5, rfl, by rw [HQn.out]; exact HBuf.out [92, 114] A5 c5 2 w5 rfl hR5, HB5⟩
     have HQn := hid (show qR 9 = [92, 116] from rfl);have hm2 : m = 2 := by rw [HMm.out, HQn.out]; rfl
     have hsz2 : (⟨#[92, 116]⟩ : ByteArray).size = 2 := rfl;subst hm2;clear e34;go_wp2_with (at_builtin; refine wpList_append_own_string _ rfl (.tmp 65) (.const (.string ⟨#[92, 116]⟩)) 28 9 rfl w1.heap.size 5 i0 Tryz.underlying28 Tryz.underlying9 hi hz0 hz1 hz2 _ n _ rfl hR ⟨#[92, 116]⟩ rfl (by simp only [maxLen]; omega) (by omega) hws ?_; intro v5 w5 hR5 hg5 _; obtain ⟨A5, c5, rfl⟩ := JP hR5; rw [Qf] at hR5)
     have HB5 := Below.grown HBr.out hg5 hws (fun q hq => (World.ownsRow.lt hR q hq).1);go_meet
     exact ⟨A5, c5, rfl, by rw [HQn.out]; exact HBuf.out [92, 116] A5 c5 2 w5 rfl hR5, HB5⟩
    have g1 : ((x : Int) == 8) = false := JmH (by omega);have g2 : ((x : Int) == 12) = false := JmH (by omega);have g3 : ((x : Int) == 10) = false := JmH (by omega);have g4 : ((x : Int) == 13) = false := JmH (by omega);have g5 : ((x : Int) == 9) = false := JmH (by omega);by_cases e32 : x < 32
    ·have f3 : decide ((x : Int) < 32) = true := JmG (by omega)
     have f4 : decide (x < 32) = true := JmG e32;obtain ⟨p, hp1⟩ : ∃ p : Nat, p = x / 16 := ⟨_, rfl⟩
     obtain ⟨q, hq1⟩ : ∃ q : Nat, q = x % 16 := ⟨_, rfl⟩
     have hp2 : (x : Int) / 16 = p := by omega
     have hp3 : (x : Int).tdiv 16 = p := by rw [Int.tdiv_eq_ediv_of_nonneg (by omega)]; omega
     have hq2 : (x : Int) % 16 = q := by omega
     have hq3 : (x : Int).tmod 16 = q := by rw [Int.tmod_eq_emod_of_nonneg (by omega)]; omega
     have hp4 : p < 16 := by omega
     have hq4 : q < 16 := by omega
     have HQn := hid (show qR x = [92, 117, 48, 48] ++ [Y4 p, Y4 q] by rw [JjS (by omega)]; unfold qN; rw [if_neg e34, if_neg (by omega), if_neg (by omega), if_neg (by omega), if_neg (by omega), if_neg (by omega), if_pos e32, hp1, hq1]; rfl);have hm2 : m = 6 := by rw [HMm.out, HQn.out]; rfl
     have hsz2 : (⟨#[92, 117, 48, 48]⟩ : ByteArray).size = 4 := rfl;subst hm2;clear hp1 hq1 e34 e8 e32;go_wp2_with (at_builtin; refine wpList_append_own_string _ rfl (.tmp 70) (.const (.string ⟨#[92, 117, 48, 48]⟩)) 28 9 rfl w1.heap.size 5 i0 Tryz.underlying28 Tryz.underlying9 hi hz0 hz1 hz2 _ n _ rfl hR ⟨#[92, 117, 48, 48]⟩ rfl (by simp only [maxLen]; omega) (by omega) hws ?_; intro v5 w5 hR5 hg5 _; obtain ⟨A5, c5, rfl⟩ := JP hR5; rw [Qf] at hR5)
     have HB5 := hid (Below.grown HBr.out hg5 hws (fun q hq => (World.ownsRow.lt hR q hq).1));have hB5 := HBuf.out [92, 117, 48, 48] A5 c5 4 w5 rfl hR5;refine (Jcn p _ hp4).mono ?_;rintro e w6 ⟨rfl, rfl⟩;go_wp2_with fail
     refine (Jcn q _ hq4).mono ?_;rintro e w6 ⟨rfl, rfl⟩;obtain ⟨A', c', w2, hr2, hb2, hbb2⟩ := Vy w5 w1.heap.size (n + 4) c5 2 A5 (M ++ [92, 117, 48, 48]) [Y4 p, Y4 q] [.int .u8 ((Y4 p).toNat : Nat), .int .u8 ((Y4 q).toNat : Nat)] (by rw [List.length_append, <- HN.out]; rfl) hB5 rfl rfl (by omega) (by decide) HB5.out.size;have HB2 := hid (And.intro hb2 (HB5.out.trans hbb2))
     clear hb2 hbb2 hR hR5 hg5 hB5;go_wp2_with (at_builtin; refine Ji rfl (.tmp 72) (.tmp 79) 28 rfl _ _ _ w2 rfl rfl hr2 ?_)
     go_meet
     exact ⟨A', c', rfl, by rw [HQn.out, <- List.append_assoc]; exact HB2.out.1, HB2.out.2⟩
    have f3 : decide ((x : Int) < 32) = false := JmF (by omega);have f4 : decide (x < 32) = false := JmF e32;have HQn := hid (Jkf e34 e32);have hm2 : m = (Jq x).size := by rw [HMm.out, HQn.out, Array.length_toList]; rfl
    have htz := VT x;have HT := hid (fun (w' : World) => Qn (x : Int) w' (by omega));clear e34 e8 e32;go_wp2_with fail
    refine (HT.out _).mono ?_;rintro e w4 ⟨rfl, hb4⟩;have hR4 := Jh hR (fun q hq => hb4.block q (World.ownsRow.lt hR q hq).2);have HB4 := hid (HBr.out.trans (hb4.mono HBr.out.size));have hws4 := HB4.out.size;clear hR;have hR := hR4;have hws3 := hws;clear hws hR4 hb4;have hws := hws4;go_wp2_with (at_builtin; refine wpList_append_own_string _ rfl (.tmp 26) (.tmp 28) 28 9 rfl w1.heap.size 5 i0 Tryz.underlying28 Tryz.underlying9 hi hz0 hz1 hz2 _ n _ rfl hR (Jq x) rfl (by simp only [maxLen]; omega) (by omega) hws ?_; intro v5 w5 hR5 hg5 _; obtain ⟨A5, c5, rfl⟩ := JP hR5; rw [Qf] at hR5)
    have HB5 := Below.grown HB4.out hg5 hws (fun q hq => (World.ownsRow.lt hR q hq).1);go_meet
    subst hm2;exact ⟨A5, c5, rfl, by rw [HQn.out]; exact HBuf.out _ A5 c5 _ w5 (by rw [Array.length_toList]; rfl) hR5, HB5⟩
   case rest =>
    obtain ⟨A', c', rfl, hbf, hbb⟩ := hcut;have HB' := hid hbf;have HX := hid (show M ++ qR x = 34 :: (M0.take (k + 1)).flatMap qR by rw [HM.out, HQ.out]; rfl);clear hbf hR hc0;go_wp2_with fail
    go_roundw
    case rel => exact ⟨k + 1, M ++ qR x, A', n + m, c', by omega, by go_num, HX.out, by rw [List.length_append, HN.out, HMm.out], by omega, rfl, HB'.out, hbb⟩
    case measure => simp [Lib.intOf]; omega
  obtain rfl : k = M0.length := by omega
  have HX := hid (show r = ⟨(M ++ [34]).toArray⟩ by rw [HR.out, HM.out, List.take_of_length_le (Nat.le_refl _)]);obtain ⟨A', c', w2, hr2, hb2, hbb2⟩ := Vy wr w1.heap.size n c 1 A M [34] [.int .u8 34] HN.out HBf.out rfl rfl (by omega) (by decide) hws;have hn1 : n + 1 = (M ++ [34]).length := by rw [List.length_append, <- HN.out]; rfl
  have hcv := V7 hn1 (show w2.ownsRow w1.heap.size 5 1 (.slice A' (n + 1) c') (n + 1) (Lib.strCells ⟨(M ++ [34]).toArray⟩) from hn1 ▸ hb2);clear hn1 hb2;go_wp2_with (at_builtin; refine Ji rfl (.tmp 81) (.tmp 82) 28 rfl _ _ _ w2 rfl rfl hr2 ?_)
  go_ret
  exact ⟨by rw [HX.out]; rfl, HB1.out.trans ((HBr.out.trans hbb2).mono HB1.out.size)⟩
open Go.RowKit
def Jl6 (O : (Nat -> Prop) -> World -> TreeD -> List Value -> Prop) (F : Nat -> Nat -> Prop) (g : Nat) (w : World) (l : List TreeD) : Prop :=
 ∃ cur, w.heap[g]? = some (.cells cur 34 (0, 0)) /\ ∀ i d, l[i]? = some d -> ∃ es, es.length = 6 /\ (∀ j, j < 6 -> cur[i * 6 + j]? = es[j]?) /\ O (F i) w d es
def OwnK (O : (Nat -> Prop) -> World -> TreeD -> List Value -> Prop) (S : Nat -> Prop) (w : World) (l : List TreeD) (v : Value) : Prop :=
 ∃ A c, v = .slice A l.length c /\ l.length <= c /\ c <= 9223372036854775807 /\ (0 < l.length -> ∃ g F, A = some ⟨g, 0, none⟩ /\ S g /\ (∀ i b, F i b -> S b /\ b ≠ g) /\ (∀ i j b, F i b -> F j b -> i = j) /\ Jl6 O F g w l)
def OwnT : Nat -> (Nat -> Prop) -> World -> TreeD -> List Value -> Prop
 | 0, _, _, _, _ => False
 | n + 1, S, w, d, cs => ∃ (v4 v5 : Value) (S4 S5 : Nat -> Prop), cs = [.int .i64 d.kind, .bool d.flag, .int .i64 d.num, .string d.text, v4, v5] /\ QA d.kind /\ QA d.num /\ d.text.size <= 9223372036854775807 /\
   (∀ b, S4 b -> S b /\ ¬ S5 b) /\ (∀ b, S5 b -> S b) /\ OwnS S4 w d.keys v4 /\ OwnK (OwnT n) S5 w d.kids v5
theorem OwnT.out {n : Nat} {S : Nat -> Prop} {w : World} {d : TreeD} {cs : List Value} (h : OwnT (n + 1) S w d cs) : ∃ (v4 v5 : Value) (S4 S5 : Nat -> Prop), cs = [.int .i64 d.kind, .bool d.flag, .int .i64 d.num, .string d.text, v4, v5] /\ QA d.kind /\ QA d.num /\ d.text.size <= 9223372036854775807 /\
   (∀ b, S4 b -> S b /\ ¬ S5 b) /\ (∀ b, S5 b -> S b) /\ OwnS S4 w d.keys v4 /\ OwnK (OwnT n) S5 w d.kids v5 := h
theorem OwnT.into {n : Nat} {S : Nat -> Prop} {w : World} {d : TreeD} {cs : List Value} (h : ∃ (v4 v5 : Value) (S4 S5 : Nat -> Prop), cs = [.int .i64 d.kind, .bool d.flag, .int .i64 d.num, .string d.text, v4, v5] /\ QA d.kind /\ QA d.num /\ d.text.size <= 9223372036854775807 /\
   (∀ b, S4 b -> S b /\ ¬ S5 b) /\ (∀ b, S5 b -> S b) /\ OwnS S4 w d.keys v4 /\ OwnK (OwnT n) S5 w d.kids v5) : OwnT (n + 1) S w d cs := h
theorem OwnT.none {S : Nat -> Prop} {w : World} {d : TreeD} {cs : List Value} (h : OwnT 0 S w d cs) : False := h
theorem OwnT.any {n : Nat} {S : Nat -> Prop} {w : World} {d : TreeD} {cs : List Value} (h : OwnT n S w d cs) : ∃ m, n = m + 1 := by
 cases n with
 | zero => exact h.none.elim
 | succ m => exact ⟨m, rfl⟩
theorem OwnK.form {O : (Nat -> Prop) -> World -> TreeD -> List Value -> Prop} {S : Nat -> Prop} {w : World} {l : List TreeD} {v : Value} (h : OwnK O S w l v) : ∃ A c, v = .slice A l.length c := by
 obtain ⟨A, c, hv, _⟩ := h;exact ⟨A, c, hv⟩
theorem OwnT.flat {n : Nat} {S : Nat -> Prop} {w : World} {d : TreeD} {cs : List Value} (h : OwnT n S w d cs) : ∃ A4 c4 A5 c5, cs = [.int .i64 d.kind, .bool d.flag, .int .i64 d.num, .string d.text, .slice A4 d.keys.length c4, .slice A5 d.kids.length c5] /\ QA d.kind /\ QA d.num /\ d.text.size <= 9223372036854775807 := by
 obtain ⟨m, rfl⟩ := h.any;obtain ⟨v4, v5, S4, S5, rfl, a0, a2, a3, -, -, a4, a5⟩ := h.out;obtain ⟨A4, c4, rfl⟩ := a4.form;obtain ⟨A5, c5, rfl⟩ := a5.form;exact ⟨A4, c4, A5, c5, rfl, a0, a2, a3⟩
theorem OwnK.carry {O O' : (Nat -> Prop) -> World -> TreeD -> List Value -> Prop} {S S' : Nat -> Prop} {w w' : World} {l : List TreeD} {v : Value} (h : OwnK O S w l v) (hs : ∀ b, S b -> w'.heap[b]? = w.heap[b]?) (hS : ∀ b, S b -> S' b)
  (hO : ∀ F d es, (∀ b, F b -> S b) -> O F w d es -> O' F w' d es) : OwnK O' S' w' l v := by
 obtain ⟨A, c, hv, h1, h2, h3⟩ := h;refine ⟨A, c, hv, h1, h2, fun hp => ?_⟩;obtain ⟨g, F, hA, hg, hF, hF2, cur, hr, hc⟩ := h3 hp;refine ⟨g, F, hA, hS g hg, fun i b hb => ⟨hS b (hF i b hb).1, (hF i b hb).2⟩, hF2, cur, (hs g hg).trans hr, fun i d hd => ?_⟩;obtain ⟨es, e1, e2, e3⟩ := hc i d hd;exact ⟨es, e1, e2, hO (F i) d es (fun b hb => (hF i b hb).1) e3⟩
theorem OwnT.carry : ∀ {n : Nat} {S S' : Nat -> Prop} {w w' : World} {d : TreeD} {cs : List Value}, OwnT n S w d cs -> (∀ b, S b -> w'.heap[b]? = w.heap[b]?) -> (∀ b, S b -> S' b) -> OwnT n S' w' d cs
 | 0, _, _, _, _, _, _, h, _, _ => h.none.elim
 | n + 1, S, S', w, w', d, cs, h, hs, hS => by
  obtain ⟨v4, v5, S4, S5, e, a0, a2, a3, d4, d5, a4, a5⟩ := h.out
  exact OwnT.into ⟨v4, v5, S4, S5, e, a0, a2, a3, fun b hb => ⟨hS b (d4 b hb).1, (d4 b hb).2⟩, fun b hb => hS b (d5 b hb), a4.carry (fun b hb => hs b (d4 b hb).1) (fun _ h => h),
   a5.carry (fun b hb => hs b (d5 b hb)) (fun _ h => h) (fun F d es hF ho => OwnT.carry ho (fun b hb => hs b (d5 b (hF b hb))) (fun _ h => h))⟩
theorem OwnK.keep {n : Nat} {S S' : Nat -> Prop} {w w' : World} {l : List TreeD} {v : Value} (h : OwnK (OwnT n) S w l v) (hs : ∀ b, S b -> w'.heap[b]? = w.heap[b]?) (hS : ∀ b, S b -> S' b) : OwnK (OwnT n) S' w' l v :=
 h.carry hs hS (fun _ _ _ hF ho => ho.carry (fun b hb => hs b (hF b hb)) (fun _ h => h))
theorem OwnT.up : ∀ {n m : Nat} {S : Nat -> Prop} {w : World} {d : TreeD} {cs : List Value}, OwnT n S w d cs -> n <= m -> OwnT m S w d cs
 | 0, _, _, _, _, _, h, _ => h.none.elim
 | n + 1, 0, _, _, _, _, _, hm => absurd hm (by omega)
 | n + 1, m + 1, _, _, _, _, h, hm => by
  obtain ⟨v4, v5, S4, S5, e, a0, a2, a3, d4, d5, a4, a5⟩ := h.out;exact OwnT.into ⟨v4, v5, S4, S5, e, a0, a2, a3, d4, d5, a4, a5.carry (fun _ _ => rfl) (fun _ h => h) (fun F d es hF ho => OwnT.up ho (by omega))⟩
theorem OwnT.toC : ∀ {n lo hi : Nat} {S : Nat -> Prop} {w : World} {d : TreeD} {cs : List Value}, OwnT n S w d cs -> (∀ b, S b -> lo <= b /\ b < hi) -> C_Tree n lo hi w d cs
 | 0, _, _, _, _, _, _, h, _ => h.none.elim
 | n + 1, lo, hi, S, w, d, cs, h, hS => by
  obtain ⟨v4, v5, S4, S5, e, a0, a2, a3, d4, d5, a4, a5⟩ := h.out;refine C_Tree.into ⟨v4, v5, e, a0, a2, a3, a4.toC (fun b hb => hS b (d4 b hb).1), ?_⟩;obtain ⟨A, c, rfl, h1, h2, h3⟩ := a5;refine ⟨A, c, rfl, h1, h2, fun hp => ?_⟩;obtain ⟨g, F, rfl, hg, hF, hF2, cur, hr, hc⟩ := h3 hp;refine ⟨g, 0, rfl, (hS g (d5 g hg)).1, (hS g (d5 g hg)).2, fun i d hd => ?_⟩;obtain ⟨es, e1, e2, e3⟩ := hc i d hd;refine ⟨es, e1, fun j hj => ?_, OwnT.toC e3 (fun b hb => hS b (d5 b (hF i b hb).1))⟩
  rw [cell_of_row w g _ cur _ _ hr, Nat.zero_add];exact e2 j hj
end Go.Proofs.YtohcpifekcehjaaGreatDoor
