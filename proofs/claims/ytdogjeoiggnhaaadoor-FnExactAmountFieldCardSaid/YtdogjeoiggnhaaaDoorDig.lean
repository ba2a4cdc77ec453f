/- Figures of a text, plain: their number; canonical decimals; what the library's Atoi says of them. No conditions. -/
import Derived.Lib.AtoiAllCases
import Derived.Test.YtdogjeoiggnhaaaDoorDec
namespace Go.Proofs.YtdogjeoiggnhaaaDoor
open Go.RowKit Go.Lib

def figB (c : UInt8) : Prop := 48 ≤ c.toNat ∧ c.toNat ≤ 57
def valL (acc : Nat) (l : List UInt8) : Nat := l.foldl (fun a c => a * 10 + (c.toNat - 48)) acc
theorem valL_nil (acc : Nat) : valL acc [] = acc := by unfold valL; rw [List.foldl_nil]
theorem valL_cons (acc : Nat) (c : UInt8) (r : List UInt8) : valL acc (c :: r) = valL (acc * 10 + (c.toNat - 48)) r := by unfold valL; rw [List.foldl_cons]
theorem valL_ge (l : List UInt8) (acc : Nat) : acc ≤ valL acc l := by
  induction l generalizing acc with
  | nil => rw [valL_nil]; exact Nat.le_refl _
  | cons c r ih =>
    have := ih (acc * 10 + (c.toNat - 48))
    rw [valL_cons]
    omega
theorem valL_app (l m : List UInt8) (acc : Nat) : valL acc (l ++ m) = valL (valL acc l) m := by unfold valL; rw [List.foldl_append]
theorem parse_figs (l : List UInt8) (acc : Nat) (hd : ∀ c ∈ l, figB c) (h : acc < 18446744073709551616) : parseUint10 acc l = if valL acc l < 18446744073709551616 then .ok (valL acc l) else .range := by
  induction l generalizing acc with
  | nil => rw [valL_nil, if_pos h, parseUint10]
  | cons c r ih =>
    have hc := hd c (by simp)
    unfold figB at hc
    have hge := valL_ge r (acc * 10 + (c.toNat - 48))
    rw [valL_cons, parseUint10, if_pos hc]
    by_cases h1 : 1844674407370955162 ≤ acc
    · rw [if_pos h1, if_neg (by omega)]
    · rw [if_neg h1]
      by_cases h2 : 18446744073709551616 ≤ acc * 10 + (c.toNat - 48)
      · rw [if_pos h2, if_neg (by omega)]
      · rw [if_neg h2]
        exact ih _ (fun x hx => hd x (by simp [hx])) (by omega)
theorem ofNat_fig {d : Nat} (h : d < 10) : (UInt8.ofNat (48 + d)).toNat = 48 + d := by
  rw [UInt8.toNat_ofNat']
  omega
theorem dec_figs (u : Nat) : ∀ c ∈ decDigits u, figB c := by
  induction u using Nat.strongRecOn with
  | ind u ih =>
    intro c hc
    rw [decDigits] at hc
    by_cases h : u < 10
    · rw [dif_pos h] at hc
      rw [List.mem_singleton] at hc
      subst hc
      unfold figB
      rw [ofNat_fig h]
      omega
    · rw [dif_neg h] at hc
      rcases List.mem_append.1 hc with hc | hc
      · exact ih (u / 10) (by omega) c hc
      · rw [List.mem_singleton] at hc
        subst hc
        unfold figB
        rw [ofNat_fig (Nat.mod_lt _ (by decide))]
        omega
theorem dec_val (u : Nat) : valL 0 (decDigits u) = u := by
  induction u using Nat.strongRecOn with
  | ind u ih =>
    rw [decDigits]
    by_cases h : u < 10
    · rw [dif_pos h]
      rw [valL_cons, valL_nil, ofNat_fig h]
      omega
    · rw [dif_neg h, valL_app, ih (u / 10) (by omega)]
      rw [valL_cons, valL_nil, ofNat_fig (Nat.mod_lt _ (by decide))]
      omega
theorem val_pos {c : UInt8} {r : List UInt8} (h : figB c) (h0 : c.toNat ≠ 48) : 1 ≤ valL 0 (c :: r) := by
  have := valL_ge r (0 * 10 + (c.toNat - 48))
  unfold figB at h
  rw [valL_cons]
  omega
/-- Figures without a needless 0 ahead are what is told of their number. -/
theorem dec_canon : ∀ (n : Nat) (l : List UInt8), l.length = n → l ≠ [] → (∀ c ∈ l, figB c) → (∀ c r, l = c :: r → r ≠ [] → c.toNat ≠ 48) → decDigits (valL 0 l) = l
  | 0, l, hn, h0, _, _ => absurd (List.eq_nil_of_length_eq_zero hn) h0
  | n + 1, l, hn, h0, hd, hz => by
    have hl := List.dropLast_concat_getLast h0
    obtain ⟨r, hr⟩ : ∃ r, r = l.dropLast := ⟨_, rfl⟩
    obtain ⟨c, hc⟩ : ∃ c, c = l.getLast h0 := ⟨_, rfl⟩
    rw [← hr, ← hc] at hl
    subst hl
    clear hr hc
    have hcf := hd c (by simp)
    unfold figB at hcf
    rw [valL_app, valL_cons, valL_nil]
    have hback : UInt8.ofNat (48 + (c.toNat - 48)) = c := by
      apply UInt8.toNat_inj.1
      rw [ofNat_fig (by omega)]
      omega
    rcases r with _ | ⟨x, r⟩
    · rw [valL_nil, decDigits, dif_pos (by omega)]
      simp only [List.nil_append]
      rw [show 0 * 10 + (c.toNat - 48) = c.toNat - 48 by omega, hback]
    · have hx := hz x (r ++ [c]) rfl (by simp)
      have hp := val_pos (r := r) (hd x (by simp)) hx
      have ih := dec_canon n (x :: r) (by simp at hn ⊢; omega) (by simp) (fun y hy => hd y (by simp at hy ⊢; rcases hy with h | h; exact .inl h; exact .inr (.inl h))) (fun y q e hq => by
        simp only [List.cons.injEq] at e
        obtain ⟨rfl, rfl⟩ := e
        exact hx)
      obtain ⟨v, hv⟩ : ∃ v, v = valL 0 (x :: r) := ⟨_, rfl⟩
      rw [← hv] at ih hp ⊢
      rw [decDigits, dif_neg (by omega), show (v * 10 + (c.toNat - 48)) / 10 = v by omega, show (v * 10 + (c.toNat - 48)) % 10 = c.toNat - 48 by omega, ih, hback]
/-- The number that a text tells in canonical figures. -/
def readI (s : ByteArray) : Option Nat := if valL 0 s.data.toList ≤ 9223372036854775807 ∧ decDigits (valL 0 s.data.toList) = s.data.toList then some (valL 0 s.data.toList) else none
theorem decS_nat (u : Nat) : decS (u : Int) = ⟨(decDigits u).toArray⟩ := by
  unfold decS itoa
  rw [if_neg (by omega)]
  rfl
theorem decS_list (u : Nat) : (decS (u : Int)).data.toList = decDigits u := by rw [decS_nat]
theorem bytes_of_list {s : ByteArray} {l : List UInt8} (h : s.data.toList = l) : s = ⟨l.toArray⟩ := by
  subst h
  rfl
theorem readI_some {s : ByteArray} {u : Nat} (h : readI s = some u) : u ≤ 9223372036854775807 ∧ decS (u : Int) = s ∧ s.data.toList = decDigits u := by
  unfold readI at h
  split at h
  · rename_i hc
    injection h with h
    subst h
    exact ⟨hc.1, by rw [decS_nat, hc.2], hc.2.symm⟩
  · cases h
theorem readI_of {s : ByteArray} {u : Nat} (hu : u ≤ 9223372036854775807) (h : decS (u : Int) = s) : readI s = some u := by
  subst h
  unfold readI
  rw [decS_list, dec_val, if_pos ⟨hu, rfl⟩]
theorem readI_figs {s : ByteArray} {u : Nat} (h : readI s = some u) : ∀ c ∈ s.data.toList, figB c := by
  rw [(readI_some h).2.2]
  exact dec_figs u
theorem readI_len {s : ByteArray} {u : Nat} (h : readI s = some u) : s.size ≤ 19 ∧ 0 < s.size := by
  obtain ⟨h1, h2, h3⟩ := readI_some h
  have h4 := dec_len 18 u (by omega)
  have h5 : s.size = s.data.toList.length := by rw [Array.length_toList]; rfl
  rw [h5, h3]
  refine ⟨by omega, ?_⟩
  have := nDigits_pos u
  rw [decDigits_length]
  omega
/-- Where the text is such a number, Atoi gives it. -/
theorem atoi_some {s : ByteArray} {u : Nat} (h : readI s = some u) : atoiAll s.data.toList = .ok (u : Int) := by
  have hf := readI_figs h
  obtain ⟨h1, h2, h3⟩ := readI_some h
  have hl := (readI_len h).2
  rcases hs : s.data.toList with _ | ⟨c, r⟩
  · have h5 : s.size = s.data.toList.length := by rw [Array.length_toList]; rfl
    rw [hs, List.length_nil] at h5
    omega
  · have hc := hf c (by rw [hs]; simp)
    unfold figB at hc
    rw [atoiAll_plain c r (by omega) (by omega)]
    unfold parseMag
    rw [if_neg (by simp), parse_figs _ 0 (by rw [← hs]; exact hf) (by omega), ← hs, h3, dec_val, if_pos (by omega)]
    show (if 9223372036854775808 ≤ u then _ else _) = _
    rw [if_neg (by omega)]
/-- Where Atoi gives a number that is told as the text, the text is such a number. -/
theorem atoi_none {s : ByteArray} {v : Int} (h : readI s = none) (ha : atoiAll s.data.toList = .ok v) : v < 0 ∨ decS v ≠ s := by
  rcases Int.lt_or_le v 0 with hv | hv
  · exact .inl hv
  · refine .inr (fun e => ?_)
    have hb := atoiAll_bounds ha
    obtain ⟨u, rfl⟩ : ∃ u : Nat, v = u := ⟨v.toNat, by omega⟩
    rw [readI_of (by omega) e] at h
    cases h
end Go.Proofs.YtdogjeoiggnhaaaDoor
