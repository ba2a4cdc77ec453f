/- Contract of the reference's Decimal. No conditions. -/
import Derived.Lib.ItoaNum
import Derived.Test.YtdogjeoiggnhaaaDoorOwnE
namespace Go.Proofs.YtdogjeoiggnhaaaDoor
open Go.RowKit

def decS (n : Int) : ByteArray := ⟨(Lib.itoa n).toArray⟩
theorem dec_len : ∀ (k u : Nat), u < 10 ^ (k + 1) → (Lib.decDigits u).length ≤ k + 1
  | 0, u, h => by
    rw [Lib.decDigits, dif_pos (by simpa using h)]
    simp
  | k + 1, u, h => by
    rw [Lib.decDigits]
    by_cases h10 : u < 10
    · rw [dif_pos h10]; simp
    · rw [dif_neg h10, List.length_append]
      have h2 : u / 10 < 10 ^ (k + 1) := by
        rw [Nat.div_lt_iff_lt_mul (by decide)]
        rw [Nat.pow_succ] at h
        exact h
      have := dec_len k (u / 10) h2
      simp
      omega
theorem decS_size (n : Int) (hn : -9223372036854775808 ≤ n ∧ n ≤ 9223372036854775807) : (decS n).size ≤ 20 := by
  show (Lib.itoa n).toArray.size ≤ 20
  rw [List.size_toArray]
  unfold Lib.itoa
  split
  · have := dec_len 18 n.natAbs (by omega)
    rw [List.length_cons]
    omega
  · have := dec_len 18 n.toNat (by omega)
    omega
theorem app_assoc (a b c : ByteArray) : a ++ b ++ c = a ++ (b ++ c) := ByteArray.append_assoc
theorem mkL_dec (u : Nat) (hu : 0 < u) (out : ByteArray) : mkL u out = ⟨(Lib.decDigits u).toArray⟩ ++ out := by
  induction u using Nat.strongRecOn generalizing out with
  | ind u ih =>
    rw [mkL_pos u out hu, Lib.decDigits]
    by_cases h : u < 10
    · rw [dif_pos h]
      have h0 : u / 10 = 0 := by omega
      rw [h0, mkL_zero]
      unfold digit
      rw [Nat.mod_eq_of_lt h]
    · rw [dif_neg h, ih (u / 10) (by omega) (by omega)]
      rw [← app_assoc]
      congr 1
theorem decS_zero : decS 0 = ⟨#[48]⟩ := by
  unfold decS Lib.itoa
  rw [if_neg (by decide)]
  unfold Lib.decDigits
  rfl
theorem decS_pos (u : Nat) (hu : 0 < u) : decS u = mkL u ⟨#[]⟩ := by
  rw [mkL_dec u hu]
  unfold decS Lib.itoa
  rw [if_neg (by omega)]
  apply ByteArray.ext
  simp
theorem decS_neg (u : Nat) (hu : 0 < u) : decS (-(u : Int)) = ⟨#[45]⟩ ++ mkL u ⟨#[]⟩ := by
  rw [mkL_dec u hu]
  unfold decS Lib.itoa
  rw [if_pos (by omega)]
  apply ByteArray.ext
  simp
theorem c_spec_l01Figure (r : Nat) (w : World) (hr : r < 10) :
    Calls Tryd.prog 45 #[.int .i64 (r : Nat)] w fun e w' => e = .returned (.int .u8 (48 + (r : Int))) ∧ w = w' := by
  have h1 : (r : Int) < 10 := by omega
  have h0 : (0 : Int) ≤ r := by omega
  go_enter Tryd.func45, Tryd.ntmps45
  go_wp2_with fail
  go_ret
  exact ⟨by first | rfl | (congr 2; omega), rfl⟩
theorem tmod_neg10 (j : Nat) : (-(j : Int)).tmod 10 = -((j % 10 : Nat) : Int) := by
  rw [Int.neg_tmod, Int.tmod_eq_emod_of_nonneg (by omega)]
  omega
theorem tdiv_neg10 (j : Nat) : (-(j : Int)).tdiv 10 = -((j / 10 : Nat) : Int) := by
  rw [Int.neg_tdiv, Int.tdiv_eq_ediv_of_nonneg (by omega)]
  omega
theorem figure_text (w : World) (j r : Nat) (hr : r = j % 10) : (convert 68 9 (.slice (some ⟨w.heap.size, 0, none⟩) 1 1)).run Tryd.prog (w.alloc (.cells #[.int .u8 (48 + (r : Int))] 5)) = .ok (.string (digit j)) (w.alloc (.cells #[.int .u8 (48 + (r : Int))] 5)) := by
  refine run_convert_bytes_back (P := Tryd.prog) _ 68 9 5 ⟨w.heap.size, 0, none⟩ 1 [UInt8.ofNat (48 + j % 10)] Tryd.underlying68 Tryd.underlying5 Tryd.underlying9 (fun i hi => ?_)
  obtain rfl : i = 0 := by simpa using hi
  have e : ((UInt8.ofNat (48 + j % 10)).toNat : Int) = 48 + (r : Int) := by
    rw [UInt8.toNat_ofNat']; omega
  have e2 : (⟨w.heap.size, 0, none⟩ : Addr).add 0 = ⟨w.heap.size, 0, none⟩ := rfl
  rw [e2, World.cell?_alloc_mark]
  simp only [List.getElem_cons_zero, e]
  rfl
set_option maxHeartbeats 1000000 in
set_option maxRecDepth 10000 in
theorem c_spec_Decimal (n : Int) (w : World) (hn : -9223372036854775808 ≤ n ∧ n ≤ 9223372036854775807) :
    Calls Tryd.prog 36 #[.int .i64 n] w fun e w' => e = .returned (.string (decS n)) ∧ Below w.heap.size w w' := by
  by_cases h0 : n = 0
  · subst h0
    have HZ := Lib.hid decS_zero
    go_enter Tryd.func36, Tryd.ntmps36
    go_wp2_with fail
    go_ret
    exact ⟨by rw [HZ.out]; rfl, Below.refl _ _⟩
  · by_cases hneg : n < 0
    · obtain ⟨u, rfl⟩ : ∃ u : Nat, n = -(u : Int) := ⟨n.natAbs, by omega⟩
      have hu : 0 < u := by omega
      have HD := Lib.hid (decS_neg u hu)
      obtain ⟨hn1, hn2⟩ := hn
      have h0b : (-(u : Int) == 0) = false := beq_eq_false_iff_ne.2 h0
      have hnb : decide (-(u : Int) < 0) = true := decide_eq_true hneg
      clear h0
      go_enter Tryd.func36, Tryd.ntmps36
      go_wp2_with fail
      go_loopw [0, 4] (fun s0 s4 wr => ∃ (j : Nat) (out : ByteArray), s0 = .int .i64 (-(j : Int)) ∧ s4 = .string out ∧ mkL j out = mkL u ⟨#[]⟩ ∧ out.size + j ≤ u ∧ (out.size = 0 ∨ out.size + j ≤ u / 10 + 1) ∧ Below w.heap.size w wr) (fun s0 _ _ => (intOf s0).natAbs)
      case atStart => exact ⟨u, ⟨#[]⟩, rfl, rfl, rfl, by show 0 + _ ≤ _; omega, .inl rfl, Below.refl _ _⟩
      case round =>
        obtain ⟨j, out, rfl, rfl, hm, hs, hs2, hbr⟩ := hrel
        have Hj := Lib.hid hm
        clear hm
        by_cases hj : 0 < j
        · have hj0 : (-(j : Int) != 0) = true := bne_iff_ne.2 (by omega)
          have hj1 : -9223372036854775808 ≤ -(j : Int) := by omega
          obtain ⟨r, hr⟩ : ∃ r, r = j % 10 := ⟨_, rfl⟩
          have h1 := tmod_neg10 j
          have h2 := tdiv_neg10 j
          rw [← hr] at h1
          have hr9 : r < 10 := by omega
          have hd1 : (digit j).size = 1 := rfl
          have Hn := Lib.hid (show mkL (j / 10) (digit j ++ out) = mkL u ⟨#[]⟩ by rw [← Hj.out, mkL_pos j out hj])
          have Hz := Lib.hid (show (digit j ++ out).size + j / 10 ≤ u ∧ ((digit j ++ out).size = 0 ∨ (digit j ++ out).size + j / 10 ≤ u / 10 + 1) by rw [ByteArray.size_append, hd1]; omega)
          have hcv := figure_text wr j r hr
          have hso : out.size ≤ 9223372036854775806 := by clear h1 h2; omega
          clear hr hs2
          by_cases hr0 : r = 0
          · subst hr0
            have hcv0 := hcv
            rw [show (48 + ((0 : Nat) : Int)) = 48 from rfl] at hcv0
            clear hcv
            go_wp2_with fail
            refine (c_spec_l01Figure 0 _ hr9).mono ?_
            rintro e w9 ⟨rfl, rfl⟩
            go_wp2_with fail
            go_roundw
            case rel => exact ⟨j / 10, digit j ++ out, by go_num, rfl, Hn.out, Hz.out.1, Hz.out.2, (by repeat (first | (with_reducible exact Below.refl _ _) | (with_reducible refine ext_alloc ?_) | ((with_reducible refine ext_setCell ?_ ?_); focus (simp; (try omega))) | (with_reducible refine below_drewN ?_ _) | (with_reducible refine Below.drew ?_) | (with_reducible (apply ext_step; assumption))))⟩
            case measure => simp [intOf]; omega
          · have hrn : -(r : Int) < 0 := by omega
            go_wp2_with fail
            refine (c_spec_l01Figure r _ hr9).mono ?_
            rintro e w9 ⟨rfl, rfl⟩
            go_wp2_with fail
            go_roundw
            case rel => exact ⟨j / 10, digit j ++ out, by go_num, rfl, Hn.out, Hz.out.1, Hz.out.2, (by repeat (first | (with_reducible exact Below.refl _ _) | (with_reducible refine ext_alloc ?_) | ((with_reducible refine ext_setCell ?_ ?_); focus (simp; (try omega))) | (with_reducible refine below_drewN ?_ _) | (with_reducible refine Below.drew ?_) | (with_reducible (apply ext_step; assumption))))⟩
            case measure => simp [intOf]; omega
        · obtain rfl : j = 0 := by omega
          have HO := Lib.hid (show decS (-(u : Int)) = ⟨#[45]⟩ ++ out by rw [HD.out, ← Hj.out, mkL_zero])
          have hso : out.size ≤ 9223372036854775806 := by omega
          go_wp2_with fail
          go_ret
          exact ⟨by rw [HO.out]; rfl, (by repeat (first | (with_reducible exact Below.refl _ _) | (with_reducible refine ext_alloc ?_) | ((with_reducible refine ext_setCell ?_ ?_); focus (simp; (try omega))) | (with_reducible refine below_drewN ?_ _) | (with_reducible refine Below.drew ?_) | (with_reducible (apply ext_step; assumption))))⟩
    · obtain ⟨u, rfl⟩ : ∃ u : Nat, n = (u : Int) := ⟨n.toNat, by omega⟩
      have hu : 0 < u := by omega
      have HD := Lib.hid (decS_pos u hu)
      obtain ⟨hn1, hn2⟩ := hn
      have h0b : ((u : Int) == 0) = false := beq_eq_false_iff_ne.2 h0
      have hnb : decide ((u : Int) < 0) = false := decide_eq_false hneg
      clear h0
      go_enter Tryd.func36, Tryd.ntmps36
      go_wp2_with fail
      go_loopw [0, 4] (fun s0 s4 wr => ∃ (j : Nat) (out : ByteArray), s0 = .int .i64 (j : Int) ∧ s4 = .string out ∧ mkL j out = mkL u ⟨#[]⟩ ∧ out.size + j ≤ u ∧ (out.size = 0 ∨ out.size + j ≤ u / 10 + 1) ∧ Below w.heap.size w wr) (fun s0 _ _ => (intOf s0).natAbs)
      case atStart => exact ⟨u, ⟨#[]⟩, rfl, rfl, rfl, by show 0 + _ ≤ _; omega, .inl rfl, Below.refl _ _⟩
      case round =>
        obtain ⟨j, out, rfl, rfl, hm, hs, hs2, hbr⟩ := hrel
        have Hj := Lib.hid hm
        clear hm
        by_cases hj : 0 < j
        · have hj0 : ((j : Int) != 0) = true := bne_iff_ne.2 (by omega)
          have hj2 : (0 : Int) ≤ j := by omega
          have hj3 : (j : Int) ≤ 9223372036854775807 := by omega
          have hr9 : j % 10 < 10 := by omega
          have hd1 : (digit j).size = 1 := rfl
          have Hn := Lib.hid (show mkL (j / 10) (digit j ++ out) = mkL u ⟨#[]⟩ by rw [← Hj.out, mkL_pos j out hj])
          have Hz := Lib.hid (show (digit j ++ out).size + j / 10 ≤ u ∧ ((digit j ++ out).size = 0 ∨ (digit j ++ out).size + j / 10 ≤ u / 10 + 1) by rw [ByteArray.size_append, hd1]; omega)
          have hcv := figure_text wr j (j % 10) rfl
          rw [show ((j % 10 : Nat) : Int) = (j : Int) % 10 from by omega] at hcv
          have hso : out.size ≤ 9223372036854775806 := by omega
          have hge : ¬ (j : Int) % 10 < 0 := by omega
          clear hs2
          go_wp2_with fail
          refine (c_spec_l01Figure (j % 10) _ hr9).mono ?_
          rintro e w9 ⟨rfl, rfl⟩
          go_wp2_with fail
          go_roundw
          case rel => exact ⟨j / 10, digit j ++ out, by go_num, rfl, Hn.out, Hz.out.1, Hz.out.2, (by repeat (first | (with_reducible exact Below.refl _ _) | (with_reducible refine ext_alloc ?_) | ((with_reducible refine ext_setCell ?_ ?_); focus (simp; (try omega))) | (with_reducible refine below_drewN ?_ _) | (with_reducible refine Below.drew ?_) | (with_reducible (apply ext_step; assumption))))⟩
          case measure => simp [intOf]; omega
        · obtain rfl : j = 0 := by omega
          have HO := Lib.hid (show decS (u : Int) = out by rw [HD.out, ← Hj.out, mkL_zero])
          go_wp2_with fail
          go_ret
          exact ⟨by rw [HO.out]; rfl, (by repeat (first | (with_reducible exact Below.refl _ _) | (with_reducible refine ext_alloc ?_) | ((with_reducible refine ext_setCell ?_ ?_); focus (simp; (try omega))) | (with_reducible refine below_drewN ?_ _) | (with_reducible refine Below.drew ?_) | (with_reducible (apply ext_step; assumption))))⟩
end Go.Proofs.YtdogjeoiggnhaaaDoor
