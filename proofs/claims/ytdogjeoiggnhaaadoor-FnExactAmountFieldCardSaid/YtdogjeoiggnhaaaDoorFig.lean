/- Whole numbers in a text, plain: what ReadWhole computes. No conditions. -/
import Derived.Test.YtdogjeoiggnhaaaDoorDig
import Derived.Test.YtdogjeoiggnhaaaDoorByte
namespace Go.Proofs.YtdogjeoiggnhaaaDoor
open Go.RowKit Go.Lib

def figI (x : Int) : Bool := decide (48 ≤ x) && decide (x ≤ 57)
/-- The place behind the figures that stand from j on. -/
def digF (s : ByteArray) : Nat → Nat → Nat
  | 0, j => j
  | k + 1, j => if j < s.size then (if figI (byteI s j) = true then digF s k (j + 1) else j) else j
theorem digF_fuel (s : ByteArray) : ∀ (k l j : Nat), s.size - j ≤ k → s.size - j ≤ l → digF s k j = digF s l j
  | 0, 0, _, _, _ => rfl
  | 0, l + 1, j, h, _ => by unfold digF; rw [if_neg (by omega)]
  | k + 1, 0, j, _, h => by unfold digF; rw [if_neg (by omega)]
  | k + 1, l + 1, j, h1, h2 => by
    unfold digF
    split
    · split
      · exact digF_fuel s k l _ (by omega) (by omega)
      · rfl
    · rfl
def digE (s : ByteArray) (j : Nat) : Nat := digF s (s.size - j) j
theorem digE_end {s : ByteArray} {j : Nat} (h : ¬ j < s.size) : digE s j = j := by
  unfold digE
  rw [show s.size - j = 0 by omega]
  rfl
theorem digE_at {s : ByteArray} {j : Nat} (h : j < s.size) : digE s j = if figI (byteI s j) = true then digE s (j + 1) else j := by
  unfold digE
  obtain ⟨k, hk⟩ : ∃ k, s.size - j = k + 1 := ⟨s.size - j - 1, by omega⟩
  rw [hk, digF, if_pos h]
  split
  · exact digF_fuel s _ _ _ (by omega) (by omega)
  · rfl
theorem digF_le (s : ByteArray) : ∀ (k j : Nat), j ≤ digF s k j ∧ (j ≤ s.size → digF s k j ≤ s.size)
  | 0, _ => ⟨Nat.le_refl _, fun h => h⟩
  | k + 1, j => by
    unfold digF
    split
    · split
      · have := digF_le s k (j + 1)
        omega
      · omega
    · omega
theorem digE_le (s : ByteArray) (j : Nat) : j ≤ digE s j ∧ (j ≤ s.size → digE s j ≤ s.size) := digF_le s _ _
theorem digF_figs (s : ByteArray) : ∀ (k j t : Nat), j ≤ t → t < digF s k j → figI (byteI s t) = true ∧ t < s.size
  | 0, j, t, h1, h2 => by unfold digF at h2; omega
  | k + 1, j, t, h1, h2 => by
    unfold digF at h2
    split at h2
    · split at h2
      · rename_i hj hf
        rcases Nat.lt_or_ge j t with h | h
        · exact digF_figs s k (j + 1) t (by omega) h2
        · obtain rfl : t = j := by omega
          exact ⟨hf, hj⟩
      · omega
    · omega
theorem digE_figs {s : ByteArray} {j t : Nat} (h1 : j ≤ t) (h2 : t < digE s j) : figI (byteI s t) = true ∧ t < s.size := digF_figs s _ j t h1 h2
/-- The number of the bytes from a on, ahead of e. -/
def numB (s : ByteArray) (a e : Nat) : Nat := valL 0 (s.extract a e).data.toList
/-- The whole number whose figures stand from a on, and the place behind it; (0, -1): there is none. -/
def wholeA (s : ByteArray) (neg : Bool) (a : Nat) : Int × Int :=
  if digE s a = a ∨ (byteI s a = 48 ∧ a + 1 < digE s a) ∨ (digE s a < s.size ∧ (byteI s (digE s a) = 46 ∨ byteI s (digE s a) = 101 ∨ byteI s (digE s a) = 69)) then (0, -1)
  else if neg = true then (if numB s a (digE s a) ≤ 9223372036854775808 then (-(numB s a (digE s a) : Int), (digE s a : Int)) else (0, -1))
  else (if numB s a (digE s a) ≤ 9223372036854775807 then ((numB s a (digE s a) : Int), (digE s a : Int)) else (0, -1))
/-- The whole number at place i and the place behind it; (0, -1): there is none. -/
def wholeB (s : ByteArray) (i : Nat) : Int × Int :=
  if i < s.size then (if byteI s i = 45 then wholeA s true (i + 1) else wholeA s false i) else (0, -1)
theorem extract_get (s : ByteArray) (a e k : Nat) (he : e ≤ s.size) (hk : a + k < e) : (s.extract a e).data.toList[k]? = some (s.get! (a + k)) := by
  have h1 : (s.extract a e).data.toList = (s.data.toList.drop a).take (e - a) := by
    rw [ByteArray.data_extract, Array.toList_extract, List.extract_eq_take_drop]
  rw [h1, List.getElem?_take, if_pos (by omega), List.getElem?_drop]
  have h2 : a + k < s.data.toList.length := by rw [Array.length_toList]; show a + k < s.size; omega
  rw [List.getElem?_eq_getElem h2]
  congr 1
  rw [Array.getElem_toList]
  have h3 : a + k < s.size := by omega
  show s.data[a + k] = s.data[a + k]!
  rw [getElem!_pos s.data (a + k) h3]
theorem extract_len (s : ByteArray) (a e : Nat) (he : e ≤ s.size) : (s.extract a e).data.toList.length = e - a := by
  rw [Array.length_toList]
  show (s.extract a e).size = e - a
  rw [ByteArray.size_extract]
  omega
theorem fig_of {s : ByteArray} {t : Nat} (h : figI (byteI s t) = true) : figB (s.get! t) := by
  unfold figI byteI at h
  simp at h
  unfold figB
  omega
theorem figs_all {s : ByteArray} {a e : Nat} (he : e ≤ s.size) (h : ∀ t, a ≤ t → t < e → figI (byteI s t) = true) : ∀ c ∈ (s.extract a e).data.toList, figB c := by
  intro c hc
  obtain ⟨k, hk⟩ := List.mem_iff_getElem?.1 hc
  have hl : k < e - a := by
    have := (List.getElem?_eq_some_iff.1 hk).1
    rwa [extract_len s a e he] at this
  rw [extract_get s a e k he (by omega)] at hk
  injection hk with hk
  subst hk
  exact fig_of (h _ (by omega) (by omega))
theorem atoi_figs {l : List UInt8} (h0 : l ≠ []) (hf : ∀ c ∈ l, figB c) : atoiAll l = if valL 0 l ≤ 9223372036854775807 then .ok (valL 0 l : Int) else .range := by
  rcases l with _ | ⟨c, r⟩
  · exact absurd rfl h0
  · have hc := hf c (by simp)
    unfold figB at hc
    rw [atoiAll_plain c r (by omega) (by omega)]
    unfold parseMag
    rw [if_neg (by simp), parse_figs _ 0 hf (by omega)]
    obtain ⟨u, hu⟩ : ∃ u, u = valL 0 (c :: r) := ⟨_, rfl⟩
    rw [← hu]
    by_cases h1 : u < 18446744073709551616
    · rw [if_pos h1]
      show (if 9223372036854775808 ≤ u then NumEnd.range else NumEnd.ok (u : Int)) = _
      by_cases h2 : u ≤ 9223372036854775807
      · rw [if_neg (by omega), if_pos h2]
      · rw [if_pos (by omega), if_neg h2]
    · rw [if_neg h1, if_neg (by omega)]
      rfl
theorem atoi_minus {l : List UInt8} (h0 : l ≠ []) (hf : ∀ c ∈ l, figB c) : atoiAll (45 :: l) = if valL 0 l ≤ 9223372036854775808 then .ok (-(valL 0 l : Int)) else .range := by
  rw [atoiAll_minus]
  unfold parseMag
  rw [if_neg h0, parse_figs _ 0 hf (by omega)]
  obtain ⟨u, hu⟩ : ∃ u, u = valL 0 l := ⟨_, rfl⟩
  rw [← hu]
  by_cases h1 : u < 18446744073709551616
  · rw [if_pos h1]
    show (if 9223372036854775808 < u then NumEnd.range else NumEnd.ok (-(u : Int))) = _
    by_cases h2 : u ≤ 9223372036854775808
    · rw [if_neg (by omega), if_pos h2]
    · rw [if_pos (by omega), if_neg h2]
  · rw [if_neg h1, if_neg (by omega)]
    rfl
/-- Figures without a needless 0 ahead, as a number that a text tells. -/
theorem readI_figures {s : ByteArray} {a e : Nat} (hae : a < e) (he : e ≤ s.size) (h : ∀ t, a ≤ t → t < e → figI (byteI s t) = true) (hz : ¬ (byteI s a = 48 ∧ a + 1 < e)) :
    decS (numB s a e : Int) = s.extract a e := by
  have hl := extract_len s a e he
  have hg := extract_get s a e 0 he (by omega)
  have hc := dec_canon (e - a) (s.extract a e).data.toList hl (by intro hn; rw [hn] at hl; simp at hl; omega) (figs_all he h) (fun c r hcr hr => by
    rw [hcr] at hg hl
    simp at hg
    intro hcc
    refine hz ⟨by unfold byteI; rw [← hg, hcc]; rfl, ?_⟩
    rcases r with _ | ⟨x, r⟩
    · exact absurd rfl hr
    · simp at hl; omega)
  rw [decS_nat]
  unfold numB
  rw [hc]
theorem readI_part {s : ByteArray} {a e : Nat} (hae : a < e) (he : e ≤ s.size) (h : ∀ t, a ≤ t → t < e → figI (byteI s t) = true) (hz : ¬ (byteI s a = 48 ∧ a + 1 < e)) :
    readI (s.extract a e) = if numB s a e ≤ 9223372036854775807 then some (numB s a e) else none := by
  have hd := readI_figures hae he h hz
  by_cases hv : numB s a e ≤ 9223372036854775807
  · rw [if_pos hv]
    exact readI_of hv hd
  · rw [if_neg hv]
    unfold readI
    exact if_neg (fun hc => hv hc.1)
theorem wholeB_at {s : ByteArray} {i a : Nat} (h : i < s.size) (ha : a = if byteI s i = 45 then i + 1 else i) : wholeB s i = wholeA s (decide (byteI s i = 45)) a := by
  unfold wholeB
  rw [if_pos h]
  by_cases h45 : byteI s i = 45
  · rw [if_pos h45] at ha ⊢
    rw [decide_eq_true h45, ha]
  · rw [if_neg h45] at ha ⊢
    rw [decide_eq_false h45, ha]
theorem wholeA_no {s : ByteArray} {neg : Bool} {a : Nat} (h : digE s a = a ∨ (byteI s a = 48 ∧ a + 1 < digE s a) ∨ (digE s a < s.size ∧ (byteI s (digE s a) = 46 ∨ byteI s (digE s a) = 101 ∨ byteI s (digE s a) = 69))) : wholeA s neg a = (0, -1) := if_pos h
theorem extract_cons {s : ByteArray} {i e : Nat} (hi : i < e) (he : e ≤ s.size) : (s.extract i e).data.toList = s.get! i :: (s.extract (i + 1) e).data.toList := by
  apply List.ext_getElem?
  intro k
  rcases k with _ | k
  · rw [extract_get s i e 0 he (by omega)]; rfl
  · rw [List.getElem?_cons_succ]
    by_cases hk : i + 1 + k < e
    · rw [extract_get s i e (k + 1) he (by omega), extract_get s (i + 1) e k he hk]
      congr 2
      omega
    · rw [List.getElem?_eq_none (by rw [extract_len s i e he]; omega), List.getElem?_eq_none (by rw [extract_len s (i + 1) e he]; omega)]
/-- What Atoi says of the number's text. -/
theorem whole_atoi {s : ByteArray} {i a : Nat} (hi : i < s.size) (ha : a = if byteI s i = 45 then i + 1 else i) (h : ¬ (digE s a = a ∨ (byteI s a = 48 ∧ a + 1 < digE s a) ∨ (digE s a < s.size ∧ (byteI s (digE s a) = 46 ∨ byteI s (digE s a) = 101 ∨ byteI s (digE s a) = 69)))) :
    (∃ v, atoiAll (s.extract i (digE s a)).data.toList = .ok v ∧ wholeB s i = (v, (digE s a : Int))) ∨ (atoiAll (s.extract i (digE s a)).data.toList = .range ∧ wholeB s i = (0, -1)) := by
  have hae := digE_le s a
  have has : a ≤ s.size := by rw [ha]; split <;> omega
  have hes := hae.2 has
  have hne : a < digE s a := by have := hae.1; have := not_or.1 h; omega
  have hf := figs_all (s := s) (a := a) (e := digE s a) hes (fun t h1 h2 => (digE_figs h1 h2).1)
  have hl := extract_len s a (digE s a) hes
  have h0 : (s.extract a (digE s a)).data.toList ≠ [] := by intro hn; rw [hn] at hl; simp at hl; omega
  rw [wholeB_at hi ha]
  unfold wholeA
  rw [if_neg h]
  by_cases h45 : byteI s i = 45
  · rw [if_pos h45] at ha
    rw [decide_eq_true h45, if_pos rfl]
    have hc := extract_cons (s := s) (i := i) (e := digE s a) (by omega) hes
    have hb : s.get! i = 45 := by
      apply UInt8.toNat_inj.1
      have h9 : (45 : UInt8).toNat = 45 := rfl
      unfold byteI at h45
      rw [h9]
      omega
    rw [hc, hb, ← ha, atoi_minus h0 hf]
    unfold numB
    by_cases hv : valL 0 (s.extract a (digE s a)).data.toList ≤ 9223372036854775808
    · rw [if_pos hv, if_pos hv]; exact .inl ⟨_, rfl, rfl⟩
    · rw [if_neg hv, if_neg hv]; exact .inr ⟨rfl, rfl⟩
  · rw [if_neg h45] at ha
    rw [decide_eq_false h45, if_neg (by decide)]
    rw [ha] at hf h0 ⊢
    rw [atoi_figs h0 hf]
    unfold numB
    by_cases hv : valL 0 (s.extract i (digE s i)).data.toList ≤ 9223372036854775807
    · rw [if_pos hv, if_pos hv]; exact .inl ⟨_, rfl, rfl⟩
    · rw [if_neg hv, if_neg hv]; exact .inr ⟨rfl, rfl⟩
theorem lit_min : decS (9223372036854775808 : Nat) = ⟨#[57, 50, 50, 51, 51, 55, 50, 48, 51, 54, 56, 53, 52, 55, 55, 53, 56, 48, 56]⟩ := by
  rw [decS_nat]
  have h := dec_canon 19 [57, 50, 50, 51, 51, 55, 50, 48, 51, 54, 56, 53, 52, 55, 55, 53, 56, 48, 56] rfl (by simp) (by unfold figB; decide) (by intro c r h _; simp at h; rw [← h.1]; decide)
  rw [show valL 0 [57, 50, 50, 51, 51, 55, 50, 48, 51, 54, 56, 53, 52, 55, 55, 53, 56, 48, 56] = 9223372036854775808 from by unfold valL; rfl] at h
  rw [h]
theorem is_min {s : ByteArray} {a e : Nat} (hae : a < e) (he : e ≤ s.size) (h : ∀ t, a ≤ t → t < e → figI (byteI s t) = true) (hz : ¬ (byteI s a = 48 ∧ a + 1 < e)) : s.extract a e = ⟨#[57, 50, 50, 51, 51, 55, 50, 48, 51, 54, 56, 53, 52, 55, 55, 53, 56, 48, 56]⟩ ↔ numB s a e = 9223372036854775808 := by
  have hd := readI_figures hae he h hz
  constructor
  · intro hx
    rw [hx, ← lit_min] at hd
    have h1 := congrArg (fun z : ByteArray => valL 0 z.data.toList) hd
    simp only [decS_list, dec_val] at h1
    exact h1
  · intro hn
    rw [← hd, hn]
    exact lit_min
theorem toList_empty {s : ByteArray} (h : s.size = 0) : s.toList.isEmpty = true := by
  rw [Lib.toList_data, List.isEmpty_iff]
  exact List.eq_nil_of_length_eq_zero (by rw [Array.length_toList]; exact h)
theorem toList_some {s : ByteArray} (h : 0 < s.size) : s.toList.isEmpty = false := by
  rw [Lib.toList_data]
  rcases h1 : s.data.toList with _ | ⟨x, l⟩
  · have h2 : s.data.toList.length = 0 := by rw [h1]; rfl
    rw [Array.length_toList] at h2
    have h3 : s.size = s.data.size := rfl
    omega
  · rfl
end Go.Proofs.YtdogjeoiggnhaaaDoor
