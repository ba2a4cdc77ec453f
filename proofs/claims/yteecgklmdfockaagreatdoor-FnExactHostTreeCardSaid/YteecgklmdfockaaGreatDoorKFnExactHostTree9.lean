/- Written by wip/tools/pack.py: the texts that FnExactHostTree needs, without what it does not need. No conditions. -/
import Derived.Lib.ItoaNum
import Derived.Test.YteecgklmdfockaaGreatDoorKFnExactHostTree2
import Derived.Test.YteecgklmdfockaaGreatDoorKFnExactHostTree8
import Derived.Test.YteecgklmdfockaaGreatDoorKFnExactHostTree3
import Derived.Deep.Cut
import Derived.Deep.CutRange
namespace Go.Proofs.YteecgklmdfockaaGreatDoor
open Go.RowKit
def decS (n : Int) : ByteArray := ⟨(Lib.itoa n).toArray⟩
theorem dec_len : ∀ (k u : Nat), u < 10 ^ (k + 1) → (Lib.decDigits u).length ≤ k + 1
  | 0, u, h => by
    rw [Lib.decDigits, dif_pos (by simpa using h)]
    simp
  | k + 1, u, h => by
    rw [Lib.decDigits]
    by_cases h10 : u < 10
    · rw [dif_pos h10]; simp
    · rw [dif_neg h10, List.length_append]
      have h2 : u / 10 < 10 ^ (k + 1) := by
        rw [Nat.div_lt_iff_lt_mul (by decide)]
        rw [Nat.pow_succ] at h
        exact h
      have := dec_len k (u / 10) h2
      simp
      omega
theorem decS_size (n : Int) (hn : -9223372036854775808 ≤ n ∧ n ≤ 9223372036854775807) : (decS n).size ≤ 20 := by
  show (Lib.itoa n).toArray.size ≤ 20
  rw [List.size_toArray]
  unfold Lib.itoa
  split
  · have := dec_len 18 n.natAbs (by omega)
    rw [List.length_cons]
    omega
  · have := dec_len 18 n.toNat (by omega)
    omega
theorem app_assoc (a b c : ByteArray) : a ++ b ++ c = a ++ (b ++ c) := ByteArray.append_assoc
theorem mkL_dec (u : Nat) (hu : 0 < u) (out : ByteArray) : mkL u out = ⟨(Lib.decDigits u).toArray⟩ ++ out := by
  induction u using Nat.strongRecOn generalizing out with
  | ind u ih =>
    rw [mkL_pos u out hu, Lib.decDigits]
    by_cases h : u < 10
    · rw [dif_pos h]
      have h0 : u / 10 = 0 := by omega
      rw [h0, mkL_zero]
      unfold digit
      rw [Nat.mod_eq_of_lt h]
    · rw [dif_neg h, ih (u / 10) (by omega) (by omega)]
      rw [← app_assoc]
      congr 1
theorem decS_zero : decS 0 = ⟨#[48]⟩ := by
  unfold decS Lib.itoa
  rw [if_neg (by decide)]
  unfold Lib.decDigits
  rfl
theorem decS_pos (u : Nat) (hu : 0 < u) : decS u = mkL u ⟨#[]⟩ := by
  rw [mkL_dec u hu]
  unfold decS Lib.itoa
  rw [if_neg (by omega)]
  apply ByteArray.ext
  simp
theorem decS_neg (u : Nat) (hu : 0 < u) : decS (-(u : Int)) = ⟨#[45]⟩ ++ mkL u ⟨#[]⟩ := by
  rw [mkL_dec u hu]
  unfold decS Lib.itoa
  rw [if_pos (by omega)]
  apply ByteArray.ext
  simp
theorem c_spec_l01Figure (r : Nat) (w : World) (hr : r < 10) :
    Calls Tryz.prog 124 #[.int .i64 (r : Nat)] w fun e w' => e = .returned (.int .u8 (48 + (r : Int))) ∧ w = w' := by
  have h1 : (r : Int) < 10 := by omega
  have h0 : (0 : Int) ≤ r := by omega
  go_enter Tryz.func124, Tryz.ntmps124
  go_wp2_with fail
  go_ret
  exact ⟨by first | rfl | (congr 2; omega), rfl⟩
theorem tmod_neg10 (j : Nat) : (-(j : Int)).tmod 10 = -((j % 10 : Nat) : Int) := by
  rw [Int.neg_tmod, Int.tmod_eq_emod_of_nonneg (by omega)]
  omega
theorem tdiv_neg10 (j : Nat) : (-(j : Int)).tdiv 10 = -((j / 10 : Nat) : Int) := by
  rw [Int.neg_tdiv, Int.tdiv_eq_ediv_of_nonneg (by omega)]
  omega
theorem figure_text (w : World) (j r : Nat) (hr : r = j % 10) : (convert 131 9 (.slice (some ⟨w.heap.size, 0, none⟩) 1 1)).run Tryz.prog (w.alloc (.cells #[.int .u8 (48 + (r : Int))] 5)) = .ok (.string (digit j)) (w.alloc (.cells #[.int .u8 (48 + (r : Int))] 5)) := by
  refine run_convert_bytes_back (P := Tryz.prog) _ 131 9 5 ⟨w.heap.size, 0, none⟩ 1 [UInt8.ofNat (48 + j % 10)] Tryz.underlying131 Tryz.underlying5 Tryz.underlying9 (fun i hi => ?_)
  obtain rfl : i = 0 := by simpa using hi
  have e : ((UInt8.ofNat (48 + j % 10)).toNat : Int) = 48 + (r : Int) := by
    rw [UInt8.toNat_ofNat']; omega
  have e2 : (⟨w.heap.size, 0, none⟩ : Addr).add 0 = ⟨w.heap.size, 0, none⟩ := rfl
  rw [e2, World.cell?_alloc_mark]
  simp only [List.getElem_cons_zero, e]
  rfl
set_option maxHeartbeats 1000000 in
set_option maxRecDepth 10000 in
theorem c_spec_Decimal (n : Int) (w : World) (hn : -9223372036854775808 ≤ n ∧ n ≤ 9223372036854775807) :
    Calls Tryz.prog 110 #[.int .i64 n] w fun e w' => e = .returned (.string (decS n)) ∧ Below w.heap.size w w' := by
  by_cases h0 : n = 0
  · subst h0
    have HZ := Lib.hid decS_zero
    go_enter Tryz.func110, Tryz.ntmps110
    go_wp2_with fail
    go_ret
    exact ⟨by rw [HZ.out]; rfl, Below.refl _ _⟩
  · by_cases hneg : n < 0
    · obtain ⟨u, rfl⟩ : ∃ u : Nat, n = -(u : Int) := ⟨n.natAbs, by omega⟩
      have hu : 0 < u := by omega
      have HD := Lib.hid (decS_neg u hu)
      obtain ⟨hn1, hn2⟩ := hn
      have h0b : (-(u : Int) == 0) = false := beq_eq_false_iff_ne.2 h0
      have hnb : decide (-(u : Int) < 0) = true := decide_eq_true hneg
      clear h0
      go_enter Tryz.func110, Tryz.ntmps110
      go_wp2_with fail
      go_loopw [0, 4] (fun s0 s4 wr => ∃ (j : Nat) (out : ByteArray), s0 = .int .i64 (-(j : Int)) ∧ s4 = .string out ∧ mkL j out = mkL u ⟨#[]⟩ ∧ out.size + j ≤ u ∧ (out.size = 0 ∨ out.size + j ≤ u / 10 + 1) ∧ Below w.heap.size w wr) (fun s0 _ _ => (intOf s0).natAbs)
      case atStart => exact ⟨u, ⟨#[]⟩, rfl, rfl, rfl, by show 0 + _ ≤ _; omega, .inl rfl, Below.refl _ _⟩
      case round =>
        obtain ⟨j, out, rfl, rfl, hm, hs, hs2, hbr⟩ := hrel
        have Hj := Lib.hid hm
        clear hm
        by_cases hj : 0 < j
        · have hj0 : (-(j : Int) != 0) = true := bne_iff_ne.2 (by omega)
          have hj1 : -9223372036854775808 ≤ -(j : Int) := by omega
          obtain ⟨r, hr⟩ : ∃ r, r = j % 10 := ⟨_, rfl⟩
          have h1 := tmod_neg10 j
          have h2 := tdiv_neg10 j
          rw [← hr] at h1
          have hr9 : r < 10 := by omega
          have hd1 : (digit j).size = 1 := rfl
          have Hn := Lib.hid (show mkL (j / 10) (digit j ++ out) = mkL u ⟨#[]⟩ by rw [← Hj.out, mkL_pos j out hj])
          have Hz := Lib.hid (show (digit j ++ out).size + j / 10 ≤ u ∧ ((digit j ++ out).size = 0 ∨ (digit j ++ out).size + j / 10 ≤ u / 10 + 1) by rw [ByteArray.size_append, hd1]; omega)
          have hcv := figure_text wr j r hr
          have hso : out.size ≤ 9223372036854775806 := by clear h1 h2; omega
          clear hr hs2
          by_cases hr0 : r = 0
          · subst hr0
            have hcv0 := hcv
            rw [show (48 + ((0 : Nat) : Int)) = 48 from rfl] at hcv0
            clear hcv
            go_wp2_with fail
            refine (c_spec_l01Figure 0 _ hr9).mono ?_
            rintro e w9 ⟨rfl, rfl⟩
            go_wp2_with fail
            go_roundw
            case rel => exact ⟨j / 10, digit j ++ out, by go_num, rfl, Hn.out, Hz.out.1, Hz.out.2, bel⟩
            case measure => simp [intOf]; omega
          · have hrn : -(r : Int) < 0 := by omega
            go_wp2_with fail
            refine (c_spec_l01Figure r _ hr9).mono ?_
            rintro e w9 ⟨rfl, rfl⟩
            go_wp2_with fail
            go_roundw
            case rel => exact ⟨j / 10, digit j ++ out, by go_num, rfl, Hn.out, Hz.out.1, Hz.out.2, bel⟩
            case measure => simp [intOf]; omega
        · obtain rfl : j = 0 := by omega
          have HO := Lib.hid (show decS (-(u : Int)) = ⟨#[45]⟩ ++ out by rw [HD.out, ← Hj.out, mkL_zero])
          have hso : out.size ≤ 9223372036854775806 := by omega
          go_wp2_with fail
          go_ret
          exact ⟨by rw [HO.out]; rfl, bel⟩
    · obtain ⟨u, rfl⟩ : ∃ u : Nat, n = (u : Int) := ⟨n.toNat, by omega⟩
      have hu : 0 < u := by omega
      have HD := Lib.hid (decS_pos u hu)
      obtain ⟨hn1, hn2⟩ := hn
      have h0b : ((u : Int) == 0) = false := beq_eq_false_iff_ne.2 h0
      have hnb : decide ((u : Int) < 0) = false := decide_eq_false hneg
      clear h0
      go_enter Tryz.func110, Tryz.ntmps110
      go_wp2_with fail
      go_loopw [0, 4] (fun s0 s4 wr => ∃ (j : Nat) (out : ByteArray), s0 = .int .i64 (j : Int) ∧ s4 = .string out ∧ mkL j out = mkL u ⟨#[]⟩ ∧ out.size + j ≤ u ∧ (out.size = 0 ∨ out.size + j ≤ u / 10 + 1) ∧ Below w.heap.size w wr) (fun s0 _ _ => (intOf s0).natAbs)
      case atStart => exact ⟨u, ⟨#[]⟩, rfl, rfl, rfl, by show 0 + _ ≤ _; omega, .inl rfl, Below.refl _ _⟩
      case round =>
        obtain ⟨j, out, rfl, rfl, hm, hs, hs2, hbr⟩ := hrel
        have Hj := Lib.hid hm
        clear hm
        by_cases hj : 0 < j
        · have hj0 : ((j : Int) != 0) = true := bne_iff_ne.2 (by omega)
          have hj2 : (0 : Int) ≤ j := by omega
          have hj3 : (j : Int) ≤ 9223372036854775807 := by omega
          have hr9 : j % 10 < 10 := by omega
          have hd1 : (digit j).size = 1 := rfl
          have Hn := Lib.hid (show mkL (j / 10) (digit j ++ out) = mkL u ⟨#[]⟩ by rw [← Hj.out, mkL_pos j out hj])
          have Hz := Lib.hid (show (digit j ++ out).size + j / 10 ≤ u ∧ ((digit j ++ out).size = 0 ∨ (digit j ++ out).size + j / 10 ≤ u / 10 + 1) by rw [ByteArray.size_append, hd1]; omega)
          have hcv := figure_text wr j (j % 10) rfl
          rw [show ((j % 10 : Nat) : Int) = (j : Int) % 10 from by omega] at hcv
          have hso : out.size ≤ 9223372036854775806 := by omega
          have hge : ¬ (j : Int) % 10 < 0 := by omega
          clear hs2
          go_wp2_with fail
          refine (c_spec_l01Figure (j % 10) _ hr9).mono ?_
          rintro e w9 ⟨rfl, rfl⟩
          go_wp2_with fail
          go_roundw
          case rel => exact ⟨j / 10, digit j ++ out, by go_num, rfl, Hn.out, Hz.out.1, Hz.out.2, bel⟩
          case measure => simp [intOf]; omega
        · obtain rfl : j = 0 := by omega
          have HO := Lib.hid (show decS (u : Int) = out by rw [HD.out, ← Hj.out, mkL_zero])
          go_wp2_with fail
          go_ret
          exact ⟨by rw [HO.out]; rfl, bel⟩
end Go.Proofs.YteecgklmdfockaaGreatDoor
namespace Go.Proofs.YteecgklmdfockaaGreatDoor
open Go.RowKit
/-- The library's table of powers is laid. -/
def Pow (w : World) : Prop := Lib.TabIs Tryz.prog w "internal/strconv.uint64pow10" .u64 Lib.pow10Tab
theorem Pow.below {w w' : World} (h : Pow w) (hb : Below w.heap.size w w') : Pow w' := by
  unfold Pow Lib.TabIs World.var? at h ⊢
  cases hg : Tryz.prog.globalNamed "internal/strconv.uint64pow10" with
  | none => rw [hg] at h; cases h
  | some g =>
    rw [hg] at h
    simp only [Option.bind_some] at h ⊢
    have hlt : g < w.heap.size := by
      rcases Nat.lt_or_ge g w.heap.size with h' | h'
      · exact h'
      · rw [Array.getElem?_eq_none h'] at h
        cases h
    rw [hb.block g hlt]
    exact h
theorem below_grow (w : World) (k : Nat) (os : Array Obj) : Below w.heap.size w (Go.Sort.grow (w.drewN k) os) :=
  ⟨rfl, rfl, rfl, by show w.heap.size ≤ (w.heap ++ os).size; simp, fun i hi => by
    show (w.heap ++ os)[i]? = w.heap[i]?
    rw [Array.getElem?_append_left hi]⟩
theorem c_strconv_Itoa (n : Int) (w : World) (hn : -9223372036854775808 ≤ n ∧ n ≤ 9223372036854775807) (hp : Pow w) :
    Calls Tryz.prog 129 #[.int .i64 n] w fun e w' => e = .returned (.string (decS n)) ∧ Below w.heap.size w w' := by
  have h := Any.strconv_Itoa laysItoa n hn.1 hn.2 w hp
  change Calls Tryz.prog 129 _ _ _ at h
  refine h.mono ?_
  rintro e w' ⟨rfl, k, os, rfl⟩
  exact ⟨rfl, below_grow w k os⟩
theorem c_impl_Decimal (n : Int) (w : World) (hn : -9223372036854775808 ≤ n ∧ n ≤ 9223372036854775807) (hp : Pow w) :
    Calls Tryz.prog 116 #[.int .i64 n] w fun e w' => e = .returned (.string (decS n)) ∧ Below w.heap.size w w' := by
  have Hp := Lib.hid hp
  clear hp
  go_enter Tryz.func116, Tryz.ntmps116
  go_wp2_with fail
  refine (c_strconv_Itoa n _ hn Hp.out).mono ?_
  rintro e w1 ⟨rfl, hb⟩
  go_wp2_with fail
  go_ret
  exact ⟨rfl, hb⟩
end Go.Proofs.YteecgklmdfockaaGreatDoor
namespace Go.Proofs.YteecgklmdfockaaGreatDoor
open Go.RowKit
/-- How often a number is told in 1024s, r times at most; what is left. -/
def amtL : Nat → Nat → Nat → Nat × Nat
  | 0, u, k => (u, k)
  | r + 1, u, k => if 0 < u ∧ u % 1024 = 0 then amtL r (u / 1024) (k + 1) else (u, k)
def sufA (k : Nat) : ByteArray := if k = 0 then ⟨#[]⟩ else if k = 1 then ⟨#[75, 105]⟩ else if k = 2 then ⟨#[77, 105]⟩ else if k = 3 then ⟨#[71, 105]⟩ else ⟨#[84, 105]⟩
theorem sufA_size (k : Nat) : (sufA k).size ≤ 2 := by
  unfold sufA
  repeat' split
  all_goals decide
theorem amtL_le : ∀ (r u k : Nat), (amtL r u k).1 ≤ u ∧ k ≤ (amtL r u k).2 ∧ (amtL r u k).2 ≤ k + r
  | 0, u, k => ⟨Nat.le_refl _, Nat.le_refl _, Nat.le_refl _⟩
  | r + 1, u, k => by
    unfold amtL
    split
    · have h := amtL_le r (u / 1024) (k + 1)
      have : u / 1024 ≤ u := Nat.div_le_self _ _
      omega
    · simp only; omega
/-- What AmountText tells. -/
def amtS (n : Int) : ByteArray := if n < 0 then ⟨#[]⟩ else if n % 1000 ≠ 0 then decS n ++ ⟨#[109]⟩ else decS ((amtL 4 (n / 1000).toNat 0).1 : Int) ++ sufA (amtL 4 (n / 1000).toNat 0).2
theorem amtS_size (n : Int) (hn : -9223372036854775808 ≤ n ∧ n ≤ 9223372036854775807) : (amtS n).size ≤ 22 := by
  unfold amtS
  split
  · decide
  · split
    · have := decS_size n hn
      rw [ByteArray.size_append]
      have h1 : (⟨#[109]⟩ : ByteArray).size = 1 := rfl
      omega
    · have h := amtL_le 4 (n / 1000).toNat 0
      have := decS_size ((amtL 4 (n / 1000).toNat 0).1 : Int) (by omega)
      have := sufA_size (amtL 4 (n / 1000).toNat 0).2
      rw [ByteArray.size_append]
      omega
theorem step_call_at {P : Program} {w : World} {ops : Array Oper} {o : Oper} {a : Act} {K : Act → World → Prop} {Q : Exit → Act → World → Prop} {E : Prop} (hgd : o.guard = none) (h : Oper.wp P o a w K Q) : if Region.wanted o (yielded ops a.tmps) = true then Oper.wp P o a w K Q else E := by
  have hw : Region.wanted o (yielded ops a.tmps) = true := by simp [Region.wanted, hgd]
  rw [if_pos hw]
  exact h
theorem tmod_pos {n m : Int} (h : 0 ≤ n) : n.tmod m = n % m := Int.tmod_eq_emod_of_nonneg h
theorem tdiv_pos {n m : Int} (h : 0 ≤ n) : n.tdiv m = n / m := Int.tdiv_eq_ediv_of_nonneg h
set_option maxHeartbeats 2000000 in
set_option maxRecDepth 10000 in
theorem c_impl_AmountText (n : Int) (w : World) (hn : -9223372036854775808 ≤ n ∧ n ≤ 9223372036854775807) (hp : Pow w) :
    Calls Tryz.prog 82 #[.int .i64 n] w fun e w' => e = .returned (.string (amtS n)) ∧ Below w.heap.size w w' := by
  have Hp := Lib.hid hp
  clear hp
  by_cases h0 : n < 0
  · have Hf := Lib.hid (show amtS n = ⟨#[]⟩ from if_pos h0)
    go_enter Tryz.func82, Tryz.ntmps82
    go_wp2_with fail
    go_ret
    exact ⟨by rw [Hf.out]; rfl, Below.refl _ _⟩
  · have d0 : decide (n < 0) = false := decide_eq_false h0
    have hn0 : 0 ≤ n := by omega
    have ht := tmod_pos (m := 1000) hn0
    by_cases hm : n % 1000 = 0
    · obtain ⟨u0, hu0⟩ : ∃ u : Nat, u = (n / 1000).toNat := ⟨_, rfl⟩
      have hq : n / 1000 = (u0 : Int) := by omega
      have Hf := Lib.hid (show amtS n = decS ((amtL 4 u0 0).1 : Int) ++ sufA (amtL 4 u0 0).2 by rw [hu0]; unfold amtS; rw [if_neg h0, if_neg (by omega)])
      have hu9 : u0 ≤ 9223372036854775 := by omega
      clear hu0
      go_enter Tryz.func82, Tryz.ntmps82
      go_wp2_with fail
      go_loopw [3, 4, 19] (fun s3 s4 s19 wr => ∃ (k u : Nat), k ≤ 4 ∧ s19 = .int .i64 k ∧ s3 = .int .i64 u ∧ s4 = .string (sufA k) ∧ u ≤ 9223372036854775 ∧ amtL 4 u0 0 = amtL (4 - k) u k ∧ wr.heap[w.heap.size]? = some (.cells #[.string ⟨#[75, 105]⟩, .string ⟨#[77, 105]⟩, .string ⟨#[71, 105]⟩, .string ⟨#[84, 105]⟩] 9 (0, 0)) ∧ Below w.heap.size w wr) (fun _ _ s19 _ => 4 - (intOf s19).toNat)
      case atStart => exact ⟨0, u0, by omega, rfl, rfl, rfl, hu9, rfl, heap_at (by simp), bel⟩
      case round =>
        obtain ⟨k, u, hk, rfl, rfl, rfl, hu, hrun, hrow, hbr⟩ := hrel
        have HRun := Lib.hid hrun
        have HRow := Lib.hid hrow
        have HBr := Lib.hid hbr
        have hl := row_lt hrow
        obtain ⟨a0, a1, a2, a3, af⟩ := row4 hrow
        have hk0 : (0 : Int) ≤ k := by omega
        have hu0 : (0 : Int) ≤ u := by omega
        have ht2 := tmod_pos (m := 1024) hu0
        have htd := tdiv_pos (m := 1024) hu0
        clear hrun hrow hbr
        by_cases hk4 : (k : Int) < 4
        · have hk4n : k < 4 := by omega
          by_cases hc : 0 < u ∧ u % 1024 = 0
          · have hc1 : (0 : Int) < u := by omega
            have hc2 : ((u : Int) % 1024 == 0) = true := beq_iff_eq.2 (by omega)
            have HN := Lib.hid (show amtL 4 u0 0 = amtL (4 - (k + 1)) (u / 1024) (k + 1) by
              rw [HRun.out, show 4 - k = (4 - (k + 1)) + 1 by omega, amtL, if_pos hc])
            have hu2 : u / 1024 ≤ 9223372036854775 := by have := Nat.div_le_self u 1024; omega
            clear hc
            rcases (show k = 0 ∨ k = 1 ∨ k = 2 ∨ k = 3 by omega) with rfl | rfl | rfl | rfl
            all_goals
              go_wp2_with fail
              go_roundw
              case rel => first | exact ⟨1, u / 1024, by omega, rfl, by go_num, rfl, hu2, HN.out, HRow.out, HBr.out⟩ | exact ⟨2, u / 1024, by omega, rfl, by go_num, rfl, hu2, HN.out, HRow.out, HBr.out⟩ | exact ⟨3, u / 1024, by omega, rfl, by go_num, rfl, hu2, HN.out, HRow.out, HBr.out⟩ | exact ⟨4, u / 1024, by omega, rfl, by go_num, rfl, hu2, HN.out, HRow.out, HBr.out⟩
              case measure => simp [intOf]
          · have HE := Lib.hid (show amtL 4 u0 0 = (u, k) by rw [HRun.out, show 4 - k = (3 - k) + 1 by omega, amtL, if_neg hc])
            have Hf2 := Lib.hid (show amtS n = decS (u : Int) ++ sufA k by rw [Hf.out, HE.out])
            have hds := decS_size (u : Int) (by omega)
            have hss := sufA_size k
            have hp := (Hp.out.below HBr.out)
            have Hpp := Lib.hid hp
            clear hp
            by_cases hc1 : (0 : Int) < u
            · have hc2 : ((u : Int) % 1024 == 0) = false := beq_eq_false_iff_ne.2 (by omega)
              clear hc
              rcases (show k = 0 ∨ k = 1 ∨ k = 2 ∨ k = 3 by omega) with rfl | rfl | rfl | rfl
              all_goals
                go_wp2_with fail
                refine (c_impl_Decimal u _ ⟨by omega, by omega⟩ Hpp.out).mono ?_
                rintro e w1 ⟨rfl, hb⟩
                go_wp2_with fail
                go_ret
                exact ⟨by rw [Hf2.out]; rfl, HBr.out.trans (hb.mono HBr.out.size)⟩
            · have hc3 : decide ((0 : Int) < u) = false := decide_eq_false hc1
              have hc5 : decide (0 < u) = false := decide_eq_false (by omega)
              clear hc hc1
              rcases (show k = 0 ∨ k = 1 ∨ k = 2 ∨ k = 3 by omega) with rfl | rfl | rfl | rfl
              all_goals
                go_wp2_with fail
                refine (c_impl_Decimal u _ ⟨by omega, by omega⟩ Hpp.out).mono ?_
                rintro e w1 ⟨rfl, hb⟩
                go_wp2_with fail
                go_ret
                exact ⟨by rw [Hf2.out]; rfl, HBr.out.trans (hb.mono HBr.out.size)⟩
        · obtain rfl : k = 4 := by omega
          have Hf2 := Lib.hid (show amtS n = decS (u : Int) ++ sufA 4 by rw [Hf.out, HRun.out]; rfl)
          have hds := decS_size (u : Int) (by omega)
          have hss := sufA_size 4
          have hp := (Hp.out.below HBr.out)
          have Hpp := Lib.hid hp
          clear hp
          go_wp2_with fail
          refine (c_impl_Decimal u _ ⟨by omega, by omega⟩ Hpp.out).mono ?_
          rintro e w1 ⟨rfl, hb⟩
          go_wp2_with fail
          go_ret
          exact ⟨by rw [Hf2.out]; rfl, HBr.out.trans (hb.mono HBr.out.size)⟩
    · have Hf := Lib.hid (show amtS n = decS n ++ ⟨#[109]⟩ by unfold amtS; rw [if_neg h0, if_pos hm])
      have hm2 : (n % 1000 != 0) = true := bne_iff_ne.2 hm
      have hm3 : (n % 1000 == 0) = false := beq_eq_false_iff_ne.2 hm
      have hds := decS_size n hn
      clear hm
      go_enter Tryz.func82, Tryz.ntmps82
      go_wp2_with fail
      refine (c_impl_Decimal n _ hn Hp.out).mono ?_
      rintro e w1 ⟨rfl, hb⟩
      go_wp2_with fail
      go_ret
      exact ⟨by rw [Hf.out]; rfl, hb⟩
set_option maxHeartbeats 2000000 in
set_option maxRecDepth 10000 in
theorem c_spec_AmountText (n : Int) (w : World) (hn : -9223372036854775808 ≤ n ∧ n ≤ 9223372036854775807) :
    Calls Tryz.prog 69 #[.int .i64 n] w fun e w' => e = .returned (.string (amtS n)) ∧ Below w.heap.size w w' := by
  by_cases h0 : n < 0
  · have Hf := Lib.hid (show amtS n = ⟨#[]⟩ from if_pos h0)
    go_enter Tryz.func69, Tryz.ntmps69
    go_wp2_with fail
    go_ret
    exact ⟨by rw [Hf.out]; rfl, Below.refl _ _⟩
  · have d0 : decide (n < 0) = false := decide_eq_false h0
    have hn0 : 0 ≤ n := by omega
    have ht := tmod_pos (m := 1000) hn0
    by_cases hm : n % 1000 = 0
    · obtain ⟨u0, hu0⟩ : ∃ u : Nat, u = (n / 1000).toNat := ⟨_, rfl⟩
      have hq : n / 1000 = (u0 : Int) := by omega
      have Hf := Lib.hid (show amtS n = decS ((amtL 4 u0 0).1 : Int) ++ sufA (amtL 4 u0 0).2 by rw [hu0]; unfold amtS; rw [if_neg h0, if_neg (by omega)])
      have hu9 : u0 ≤ 9223372036854775 := by omega
      clear hu0
      go_enter Tryz.func69, Tryz.ntmps69
      go_wp2_with fail
      go_loopw [3, 4] (fun s3 s4 wr => ∃ (k u : Nat), k ≤ 4 ∧ s4 = .int .i64 k ∧ s3 = .int .i64 u ∧ u ≤ 9223372036854775 ∧ amtL 4 u0 0 = amtL (4 - k) u k ∧ wr = w) (fun _ s4 _ => 4 - (intOf s4).toNat)
      case atStart => exact ⟨0, u0, by omega, rfl, rfl, hu9, rfl, rfl⟩
      case round =>
        obtain ⟨k, u, hk, rfl, rfl, hu, hrun, rfl⟩ := hrel
        have HRun := Lib.hid hrun
        have hk0 : (0 : Int) ≤ k := by omega
        have hu0 : (0 : Int) ≤ u := by omega
        have ht2 := tmod_pos (m := 1024) hu0
        have htd := tdiv_pos (m := 1024) hu0
        clear hrun
        by_cases hcc : (k : Int) < 4 ∧ 0 < u ∧ u % 1024 = 0
        · obtain ⟨hk4, hc⟩ := hcc
          have hk4n : k < 4 := by omega
          have hc1 : (0 : Int) < u := by omega
          have hc2 : ((u : Int) % 1024 == 0) = true := beq_iff_eq.2 (by omega)
          have HN := Lib.hid (show amtL 4 u0 0 = amtL (4 - (k + 1)) (u / 1024) (k + 1) by
            rw [HRun.out, show 4 - k = (4 - (k + 1)) + 1 by omega, amtL, if_pos hc])
          have hu2 : u / 1024 ≤ 9223372036854775 := by have := Nat.div_le_self u 1024; omega
          clear hc
          go_wp2_with fail
          go_roundw
          case rel => exact ⟨k + 1, u / 1024, by omega, by go_num, by go_num, hu2, HN.out, by first | rfl | exact True.intro⟩
          case measure => simp [intOf]; omega
        · have HE := Lib.hid (show amtL 4 u0 0 = (u, k) by
            rw [HRun.out]
            by_cases hk4 : k < 4
            · rw [show 4 - k = (3 - k) + 1 by omega, amtL, if_neg (fun h => hcc ⟨by omega, h⟩)]
            · rw [show 4 - k = 0 by omega]; rfl)
          have Hf2 := Lib.hid (show amtS n = decS (u : Int) ++ sufA k by rw [Hf.out, HE.out])
          have hds := decS_size (u : Int) (by omega)
          have hss := sufA_size k
          have hk5 : k < 5 := by omega
          have hk6 : (k : Int) < 5 := by omega
          have key : (k : Int) < 4 ∨ ¬ (k : Int) < 4 := by omega
          have htail : ∀ P : Prop, (¬ (k : Int) < 4 → P) → ((k : Int) < 4 → decide (0 < u) = false → P) → ((k : Int) < 4 → (0 : Int) < u → ((u : Int) % 1024 == 0) = false → P) → P := by
            intro P h1 h2 h3
            by_cases a1 : (k : Int) < 4
            · by_cases a2 : (0 : Int) < u
              · exact h3 a1 a2 (beq_eq_false_iff_ne.2 (by omega))
              · exact h2 a1 (decide_eq_false (by omega))
            · exact h1 a1
          have hz8 : ¬ 9223372036854775807 < (decS (u : Int)).size := by omega
          have hz9 : ¬ 9223372036854775807 < (decS (u : Int)).size + 2 := by omega
          clear hcc key
          have fin : ∀ (K : Prop), (∀ h : k = 0 ∨ k = 1 ∨ k = 2 ∨ k = 3 ∨ k = 4, K) → K := fun K h => h (by omega)
          refine htail _ (fun a1 => ?_) (fun a1 a2 => ?_) (fun a1 a2 a3 => ?_)
          all_goals
            clear htail
            refine fin _ (fun hkk => ?_)
            clear fin
            rcases hkk with rfl | rfl | rfl | rfl | rfl
            all_goals
              first
                | (exfalso; omega)
                | (go_wp2_with fail
                   go_region_law (first | (refine step_call_at rfl ?_; go_simp; go_at_call 110; refine (c_spec_Decimal u _ ⟨by omega, by omega⟩).mono ?_; rintro e w5 ⟨rfl, hb⟩; (first | (have hcu2 := Cum.join hcu hb; (try clear hcu); (try clear hc); (try clear hfz); (try clear hsz); (try clear hs0); (try clear hs1); (try clear hs2); (try clear hs3); (try clear hs4); ) | have hcu2 := Cum.mk hb); have hcu := hcu2; clear hcu2; obtain ⟨hc, hfz⟩ := bcell hcu.h; have hsz := hcu.h.size; (try simp at hsz); (try have hs0 := lt_of_succ_le hsz); (try (have hs1 := lt_pred hsz; (try (have hs2 := lt_pred hs1; (try (have hs3 := lt_pred hs2; (try have hs4 := lt_pred hs3)))))))))
                   all_goals
                     go_wp2_with fail
                     go_ret
                     exact ⟨by rw [Hf2.out]; rfl, bel⟩)
    · have Hf := Lib.hid (show amtS n = decS n ++ ⟨#[109]⟩ by unfold amtS; rw [if_neg h0, if_pos hm])
      have hm2 : (n % 1000 != 0) = true := bne_iff_ne.2 hm
      have hm3 : (n % 1000 == 0) = false := beq_eq_false_iff_ne.2 hm
      have hds := decS_size n hn
      clear hm
      go_enter Tryz.func69, Tryz.ntmps69
      go_wp2_with fail
      refine (c_spec_Decimal n _ hn).mono ?_
      rintro e w1 ⟨rfl, hb⟩
      go_wp2_with fail
      go_ret
      exact ⟨by rw [Hf.out]; rfl, hb⟩
end Go.Proofs.YteecgklmdfockaaGreatDoor
namespace Go.Proofs.YteecgklmdfockaaGreatDoor
open Go.RowKit
def hCpu : ByteArray := ⟨#[99, 112, 117]⟩
def hKind : ByteArray := ⟨#[107, 105, 110, 100]⟩
def hLabels : ByteArray := ⟨#[108, 97, 98, 101, 108, 115]⟩
def hMem : ByteArray := ⟨#[109, 101, 109]⟩
def hName : ByteArray := ⟨#[110, 97, 109, 101]⟩
def hSlots : ByteArray := ⟨#[115, 108, 111, 116, 115]⟩
def hTaints : ByteArray := ⟨#[116, 97, 105, 110, 116, 115]⟩
def optK (b : Bool) (k : ByteArray) : List ByteArray := if b then [k] else []
def optD (b : Bool) (d : TreeD) : List TreeD := if b then [d] else []
theorem optK_len (b : Bool) (k : ByteArray) : (optK b k).length ≤ 1 := by cases b <;> simp [optK]
theorem optKD (b : Bool) (k : ByteArray) (d : TreeD) : (optD b d).length = (optK b k).length := by cases b <;> rfl
def headK (l : List Label) : List ByteArray := [hCpu, hKind] ++ optK (!l.isEmpty) hLabels ++ [hMem, hName]
def headT (kind name : ByteArray) (l : List Label) (cpu mem : Int) : List TreeD := [leafD (amtS cpu), leafD kind] ++ optD (!l.isEmpty) (labelsT l) ++ [leafD (amtS mem), leafD name]
theorem headK_eq (l : List Label) : headK l = [hCpu, hKind] ++ optK (!l.isEmpty) hLabels ++ [hMem] ++ [hName] := by unfold headK; rw [List.append_assoc _ [hMem] [hName]]; rfl
theorem headT_eq (kind name : ByteArray) (l : List Label) (cpu mem : Int) : headT kind name l cpu mem = [leafD (amtS cpu), leafD kind] ++ optD (!l.isEmpty) (labelsT l) ++ [leafD (amtS mem)] ++ [leafD name] := by unfold headT; rw [List.append_assoc _ [leafD (amtS mem)] [leafD name]]; rfl
theorem emp_no {D : Type} {l : List D} (h : l.length = 0) : (!l.isEmpty) = false := by cases l with | nil => rfl | cons a r => simp at h
theorem emp_yes {D : Type} {l : List D} (h : ¬ l.length = 0) : (!l.isEmpty) = true := by cases l with | nil => simp at h | cons a r => rfl
theorem headK_len (l : List Label) : (headK l).length ≤ 5 := by unfold headK; have := optK_len (!l.isEmpty) hLabels; simp; omega
theorem headKT (kind name : ByteArray) (l : List Label) (cpu mem : Int) : (headT kind name l cpu mem).length = (headK l).length := by unfold headT headK; have := optKD (!l.isEmpty) hLabels (labelsT l); simp; exact this
theorem head_ok (l : List Label) : ∀ k ∈ headK l, k.size ≤ 9223372036854775807 := by
  intro k hk
  unfold headK at hk
  simp at hk
  rcases hk with rfl | rfl | hk | rfl | rfl
  · decide
  · decide
  · unfold optK at hk
    split at hk
    · simp at hk; subst hk; decide
    · cases hk
  · decide
  · decide
theorem lt_cpu_kind : lessS hCpu hKind = true := by simp [lessS, hCpu, hKind, ByteArray.toList_eq, Op.bytesLess]
theorem lt_cpu_labels : lessS hCpu hLabels = true := by simp [lessS, hCpu, hLabels, ByteArray.toList_eq, Op.bytesLess]
theorem lt_kind_labels : lessS hKind hLabels = true := by simp [lessS, hKind, hLabels, ByteArray.toList_eq, Op.bytesLess]
theorem lt_cpu_mem : lessS hCpu hMem = true := by simp [lessS, hCpu, hMem, ByteArray.toList_eq, Op.bytesLess]
theorem lt_kind_mem : lessS hKind hMem = true := by simp [lessS, hKind, hMem, ByteArray.toList_eq, Op.bytesLess]
theorem lt_labels_mem : lessS hLabels hMem = true := by simp [lessS, hLabels, hMem, ByteArray.toList_eq, Op.bytesLess]
theorem lt_cpu_name : lessS hCpu hName = true := by simp [lessS, hCpu, hName, ByteArray.toList_eq, Op.bytesLess]
theorem lt_kind_name : lessS hKind hName = true := by simp [lessS, hKind, hName, ByteArray.toList_eq, Op.bytesLess]
theorem lt_labels_name : lessS hLabels hName = true := by simp [lessS, hLabels, hName, ByteArray.toList_eq, Op.bytesLess]
theorem lt_mem_name : lessS hMem hName = true := by simp [lessS, hMem, hName, ByteArray.toList_eq, Op.bytesLess]
theorem grow_fin {n base B b0 : Nat} {tb : Option Nat} {w wN wF : World} {ks : List ByteArray} {ts : List TreeD} {vk vl : Value} (h : GRow n base tb wN ks ts vk vl) (hB : B ≤ base) (h0 : b0 < base) (hA : Aside (fun b => b = b0) wN wF) (hb : Below b0 w wN) (h1 : b0 < wN.heap.size) :
    ∃ vk' vl', Ending.returned (.agg #[.int .i64 6, .bool false, .int .i64 0, .string ⟨#[]⟩, vk, vl]) = Ending.returned (.agg #[.int .i64 6, .bool false, .int .i64 0, .string ⟨#[]⟩, vk', vl']) ∧ GRow n B none wF ks ts vk' vl' ∧ Below b0 w wF := by
  refine ⟨vk, vl, rfl, GRow.less (base := base) (GRow.carry (w := wN) h.free hA.size (fun q q1 q2 => hA.block q q2 (by omega))) hB, ?_⟩
  exact hb.trans (hA.below (Nat.le_of_lt h1) (fun i hi => by omega))
set_option maxHeartbeats 4000000 in
set_option maxRecDepth 20000 in
theorem c_impl_commonTree (n : Nat) (kind name : ByteArray) (l : List Label) (v : Value) (cpu mem : Int) (w : World) (lo : Nat) (hk : kind.size ≤ 9223372036854775807) (hn : name.size ≤ 9223372036854775807) (hs : Sl_Label lo w.heap.size w l v) (hc : -9223372036854775808 ≤ cpu ∧ cpu ≤ 9223372036854775807) (hm : -9223372036854775808 ≤ mem ∧ mem ≤ 9223372036854775807) (hp : Pow w) :
    Calls Tryz.prog 31 #[.string kind, .string name, v, .int .i64 cpu, .int .i64 mem] w fun e w' => ∃ vk vl, e = .returned (.agg #[.int .i64 6, .bool false, .int .i64 0, .string ⟨#[]⟩, vk, vl]) ∧ GRow (n + 2) w.heap.size none w' (headK l) (headT kind name l cpu mem) vk vl ∧ Below w.heap.size w w' := by
  obtain ⟨A, c, rfl⟩ := hs.form
  have HS := Lib.hid hs
  have Hp := Lib.hid hp
  have Hc := Lib.hid hc
  have Hm := Lib.hid hm
  have hac : (amtS cpu).size ≤ 9223372036854775807 := by have := amtS_size cpu hc; omega
  have ham : (amtS mem).size ≤ 9223372036854775807 := by have := amtS_size mem hm; omega
  have Hsz := Lib.hid (And.intro (And.intro hac ham) (And.intro hk hn))
  clear hs hp hc hm hac ham hk hn
  go_enter Tryz.func31, Tryz.ntmps31
  go_wp2_with fail
  refine (c_impl_AmountText cpu _ Hc.out (Hp.out.below bel)).mono ?_
  rintro e w1 ⟨rfl, hb1⟩
  have R1 : w1.heap[w.heap.size]? = some (.cells #[.int .i64 0, .bool false, .int .i64 0, .string ⟨#[]⟩, .slice none 0 0, .slice none 0 0] 30 (0, 0)) := (hb1.block w.heap.size (by simp; omega)).trans ((Below.heap_alloc _ _ _ (by simp)).trans (heap_at (by simp)))
  have G1 : GMap (n + 2) (w.heap.size + 2) (w.heap.size + 1) w1 [] [] := GMap.nil ((hb1.block (w.heap.size + 1) (by simp)).trans (heap_at (by simp)))
  have B1 : Below w.heap.size w w1 := Below.trans bel (hb1.mono (by simp; omega))
  have z1 := hb1.size
  simp at z1
  have HR1 := Lib.hid R1
  have HG1 := Lib.hid G1
  have HB1 := Lib.hid B1
  clear R1 G1 B1 hb1
  go_wp2_with fail
  refine (c_impl_TextTree (amtS cpu) _).mono ?_
  rintro e w2 ⟨rfl, hb2⟩
  have HR2 := Lib.hid ((hb2.block w.heap.size (by omega)).trans HR1.out)
  have HB2 := Lib.hid (HB1.out.trans (hb2.mono HB1.out.size))
  have z2 := Nat.le_trans z1 hb2.size
  have HX2 := Lib.hid hb2
  clear hb2
  go_wp2_with fail
  refine (c_addKidG (n + 2) _ _ hCpu (leafD (amtS cpu)) (leafC (amtS cpu)) (w.heap.size + 1) (w.heap.size + 2) w1 _ HG1.out (HX2.out) (own_leafT Hsz.out.1.1) (by omega) (by simp) (by simp)).mono ?_
  rintro e w3 ⟨rfl, hg3, hbb3, hz3⟩
  have HR3 := Lib.hid (((hbb3 (w.heap.size + 1) (Nat.le_refl _) (by omega)).block w.heap.size (by omega)).trans HR2.out)
  have HB3 := Lib.hid (HB2.out.trans (hbb3 w.heap.size (by omega) (by omega)))
  have z3 := Nat.le_trans z2 hz3
  have HG3 := Lib.hid hg3
  clear hg3 hbb3
  go_wp2_with fail
  refine (c_impl_TextTree kind _).mono ?_
  rintro e w4 ⟨rfl, hb4⟩
  have HR4 := Lib.hid ((hb4.block w.heap.size (by omega)).trans HR3.out)
  have HB4 := Lib.hid (HB3.out.trans (hb4.mono HB3.out.size))
  have z4 := Nat.le_trans z3 hb4.size
  have HX4 := Lib.hid hb4
  clear hb4
  go_wp2_with fail
  refine (c_addKidG (n + 2) _ _ hKind (leafD kind) (leafC kind) (w.heap.size + 1) (w.heap.size + 2) w3 _ HG3.out (HX4.out) (own_leafT Hsz.out.2.1) (by omega) (by simp) (by simp)).mono ?_
  rintro e w5 ⟨rfl, hg5, hbb5, hz5⟩
  have HR5 := Lib.hid (((hbb5 (w.heap.size + 1) (Nat.le_refl _) (by omega)).block w.heap.size (by omega)).trans HR4.out)
  have HB5 := Lib.hid (HB4.out.trans (hbb5 w.heap.size (by omega) (by omega)))
  have z5 := Nat.le_trans z4 hz5
  have HG5 := Lib.hid hg5
  clear hg5 hbb5
  go_upto_if 22 with fail
  go_cut [] from 22 to 25 (fun wx => GMap (n + 2) (w.heap.size + 2) (w.heap.size + 1) wx ([hCpu, hKind] ++ optK (!l.isEmpty) hLabels) ([leafD (amtS cpu), leafD kind] ++ optD (!l.isEmpty) (labelsT l)) ∧ wx.heap[w.heap.size]? = some (.cells #[.int .i64 0, .bool false, .int .i64 0, .string ⟨#[]⟩, .slice none 0 0, .slice none 0 0] 30 (0, 0)) ∧ Below w.heap.size w wx ∧ w.heap.size + 2 ≤ wx.heap.size)
  case first =>
    by_cases h0 : l.length = 0
    · have HE := Lib.hid (emp_no h0)
      have hl0 : ¬ (0 : Int) < l.length := by omega
      clear h0
      go_wp2_with fail
      go_meet
      rw [HE.out]
      exact ⟨HG5.out, HR5.out, HB5.out, z5⟩
    · have HE := Lib.hid (emp_yes h0)
      have hl0 : (0 : Int) < l.length := by omega
      clear h0
      go_wp2_with fail
      refine (c_impl_LabelsTree n l _ _ lo (HS.out.keep (same_below HB5.out) (Nat.le_refl _) HB5.out.size)).mono ?_
      rintro e w6 ⟨cs, rfl, hO, hb6⟩
      have HR6 := Lib.hid ((hb6.block w.heap.size (by omega)).trans HR5.out)
      have HB6 := Lib.hid (HB5.out.trans (hb6.mono HB5.out.size))
      have z6 := Nat.le_trans z5 hb6.size
      have HO := Lib.hid hO
      clear hO
      have HX6 := Lib.hid hb6
      clear hb6
      go_wp2_with fail
      refine (c_addKidG (n + 2) _ _ hLabels (labelsT l) cs (w.heap.size + 1) (w.heap.size + 2) w5 _ HG5.out (HX6.out) HO.out (by omega) (by simp) (by simp)).mono ?_
      rintro e w7 ⟨rfl, hg7, hbb7, hz7⟩
      have HR7 := Lib.hid (((hbb7 (w.heap.size + 1) (Nat.le_refl _) (by omega)).block w.heap.size (by omega)).trans HR6.out)
      have HB7 := Lib.hid (HB6.out.trans (hbb7 w.heap.size (by omega) (by omega)))
      have z7 := Nat.le_trans z6 hz7
      have HG7 := Lib.hid hg7
      clear hg7 hbb7
      go_wp2_with fail
      go_meet
      rw [HE.out]
      exact ⟨HG7.out, HR7.out, HB7.out, z7⟩
  case rest =>
    obtain ⟨hG, hR, hB, hz⟩ := hcut
    obtain ⟨w15, hwc⟩ : ∃ x, x = wc := ⟨_, rfl⟩
    rw [← hwc] at hG hR hB hz ⊢
    clear hwc
    have HG15 := Lib.hid hG
    have HR15 := Lib.hid hR
    have HB15 := Lib.hid hB
    have z15 := hz
    have hoK := optK_len (!l.isEmpty) hLabels
    have hoD := optKD (!l.isEmpty) hLabels (labelsT l)
    have HoK := Lib.hid (And.intro hoK hoD)
    clear hG hR hB hz hoK hoD
    go_wp2_with fail
    refine (c_impl_AmountText mem _ Hm.out (Hp.out.below HB15.out)).mono ?_
    rintro e w16 ⟨rfl, hb16⟩
    have HR16 := Lib.hid ((hb16.block w.heap.size (by omega)).trans HR15.out)
    have HB16 := Lib.hid (HB15.out.trans (hb16.mono HB15.out.size))
    have z16 := Nat.le_trans z15 hb16.size
    have HX16 := Lib.hid hb16
    clear hb16
    go_wp2_with fail
    refine (c_impl_TextTree (amtS mem) _).mono ?_
    rintro e w17 ⟨rfl, hb17⟩
    have HR17 := Lib.hid ((hb17.block w.heap.size (by omega)).trans HR16.out)
    have HB17 := Lib.hid (HB16.out.trans (hb17.mono HB16.out.size))
    have z17 := Nat.le_trans z16 hb17.size
    have HX17 := Lib.hid (HX16.out.trans (hb17.mono HX16.out.size))
    clear hb17
    go_wp2_with fail
    refine (c_addKidG (n + 2) _ _ hMem (leafD (amtS mem)) (leafC (amtS mem)) (w.heap.size + 1) (w.heap.size + 2) w15 _ HG15.out (HX17.out) (own_leafT Hsz.out.1.2) (by omega) (by have := HoK.out; simp; omega) (by have := HoK.out; simp; omega)).mono ?_
    rintro e w18 ⟨rfl, hg18, hbb18, hz18⟩
    have HR18 := Lib.hid (((hbb18 (w.heap.size + 1) (Nat.le_refl _) (by omega)).block w.heap.size (by omega)).trans HR17.out)
    have HB18 := Lib.hid (HB17.out.trans (hbb18 w.heap.size (by omega) (by omega)))
    have z18 := Nat.le_trans z17 hz18
    have HG18 := Lib.hid hg18
    clear hg18 hbb18
    go_wp2_with fail
    refine (c_impl_TextTree name _).mono ?_
    rintro e w19 ⟨rfl, hb19⟩
    have HR19 := Lib.hid ((hb19.block w.heap.size (by omega)).trans HR18.out)
    have HB19 := Lib.hid (HB18.out.trans (hb19.mono HB18.out.size))
    have z19 := Nat.le_trans z18 hb19.size
    have HX19 := Lib.hid hb19
    clear hb19
    go_wp2_with fail
    refine (c_addKidG (n + 2) _ _ hName (leafD name) (leafC name) (w.heap.size + 1) (w.heap.size + 2) w18 _ HG18.out (HX19.out) (own_leafT Hsz.out.2.2) (by omega) (by have := HoK.out; simp; omega) (by have := HoK.out; simp; omega)).mono ?_
    rintro e w20 ⟨rfl, hg20, hbb20, hz20⟩
    have HR20 := Lib.hid (((hbb20 (w.heap.size + 1) (Nat.le_refl _) (by omega)).block w.heap.size (by omega)).trans HR19.out)
    have HB20 := Lib.hid (HB19.out.trans (hbb20 w.heap.size (by omega) (by omega)))
    have z20 := Nat.le_trans z19 hz20
    have HG20 := Lib.hid hg20
    clear hg20 hbb20
    obtain ⟨vk, vl, hrow, hgr, -, -⟩ := HG20.out
    obtain ⟨A4, c4, A5, c5, rfl, rfl⟩ := hgr.form
    obtain ⟨x0, x1, x2, x3, x4, x5, xf⟩ := row6 hrow
    obtain ⟨y0, y1, y2, y3, y4, y5, yf⟩ := row6 HR20.out
    have l1 := row_lt hrow
    have l2 := row_lt HR20.out
    have HGR := Lib.hid hgr
    clear hrow hgr
    go_wp2_with fail
    have HK := Lib.hid (show GRow (n + 2) (w.heap.size + 2) (some (w.heap.size + 1)) w20 (headK l) (headT kind name l cpu mem) _ _ by rw [headK_eq, headT_eq]; exact HGR.out)
    exact bodyPost_ret (v := .agg #[.int .i64 6, .bool false, .int .i64 0, .string ⟨#[]⟩, .slice A4 ([hCpu, hKind] ++ optK (!l.isEmpty) hLabels ++ [hMem] ++ [hName]).length c4, .slice A5 ([leafD (amtS cpu), leafD kind] ++ optD (!l.isEmpty) (labelsT l) ++ [leafD (amtS mem)] ++ [leafD name]).length c5]) (by simp only [results, Tryz.results31]; go_simp) rfl (grow_fin (b0 := w.heap.size) (B := w.heap.size) (base := w.heap.size + 2) HK.out (by omega) (by omega) (by repeat (first | (with_reducible exact Aside.refl _ _) | ((with_reducible refine aside_set ?_ ?_); (focus (simp; done))) | (with_reducible refine aside_alloc ?_))) HB20.out l2)
set_option maxHeartbeats 4000000 in
set_option maxRecDepth 20000 in
theorem c_spec_l20Head (n : Nat) (kind name : ByteArray) (l : List Label) (v : Value) (cpu mem : Int) (w : World) (lo : Nat) (hk : kind.size ≤ 9223372036854775807) (hn : name.size ≤ 9223372036854775807) (hs : Sl_Label lo w.heap.size w l v) (hc : -9223372036854775808 ≤ cpu ∧ cpu ≤ 9223372036854775807) (hm : -9223372036854775808 ≤ mem ∧ mem ≤ 9223372036854775807) :
    Calls Tryz.prog 23 #[.string kind, .string name, v, .int .i64 cpu, .int .i64 mem] w fun e w' => ∃ vk vl, e = .returned (.agg #[.int .i64 6, .bool false, .int .i64 0, .string ⟨#[]⟩, vk, vl]) ∧ GRow (n + 2) w.heap.size none w' (headK l) (headT kind name l cpu mem) vk vl ∧ Below w.heap.size w w' := by
  obtain ⟨A, c, rfl⟩ := hs.form
  have HS := Lib.hid hs
  have Hc := Lib.hid hc
  have Hm := Lib.hid hm
  have hac : (amtS cpu).size ≤ 9223372036854775807 := by have := amtS_size cpu hc; omega
  have ham : (amtS mem).size ≤ 9223372036854775807 := by have := amtS_size mem hm; omega
  have Hsz := Lib.hid (And.intro (And.intro hac ham) (And.intro hk hn))
  have Hhd := Lib.hid (head_ok l)
  clear hs hc hm hac ham hk hn
  go_enter Tryz.func23, Tryz.ntmps23
  go_wp2_with fail
  obtain ⟨w1, hW⟩ : ∃ x, x = (w.alloc (.cells #[.int .i64 0, .bool false, .int .i64 0, .string ⟨#[]⟩, .slice none 0 0, .slice none 0 0] 30)).alloc (.cells #[.int .i64 6, .bool false, .int .i64 0, .string ⟨#[]⟩, .slice none 0 0, .slice none 0 0] 30) := ⟨_, rfl⟩
  rw [← hW]
  have HR1 := Lib.hid (show w1.heap[w.heap.size]? = some (.cells #[.int .i64 0, .bool false, .int .i64 0, .string ⟨#[]⟩, .slice none 0 0, .slice none 0 0] 30 (0, 0)) by rw [hW]; exact (Below.heap_alloc _ _ _ (by simp)).trans (heap_at (by simp)))
  have HG1 := Lib.hid (show GMap (n + 2) (w.heap.size + 2) (w.heap.size + 1) w1 [] [] from GMap.nil (by rw [hW]; exact heap_at (by simp)))
  have HB1 := Lib.hid (show Below w.heap.size w w1 by rw [hW]; exact bel)
  have z1 : w.heap.size + 2 ≤ w1.heap.size := by rw [hW]; simp
  clear hW
  go_upto_region 2 with fail
  go_cut [] from 13 to 17 (fun wx => GMap (n + 2) (w.heap.size + 2) (w.heap.size + 1) wx ([hCpu]) ([leafD (amtS cpu)]) ∧ wx.heap[w.heap.size]? = some (.cells #[.int .i64 0, .bool false, .int .i64 0, .string ⟨#[]⟩, .slice none 0 0, .slice none 0 0] 30 (0, 0)) ∧ Below w.heap.size w wx ∧ w.heap.size + 2 ≤ wx.heap.size)
  case first =>
    obtain ⟨A4, A5, n4, c4, n5, c5, hrow, hgr, -, -⟩ := HG1.out.open
    obtain ⟨x0, x1, x2, x3, x4, x5, xf⟩ := row6 hrow
    have l1 := row_lt hrow
    have lz := row_lt HR1.out
    have HRow := Lib.hid hrow
    have HGr := Lib.hid hgr
    clear hrow hgr
    go_region_law (first | (go_simp; go_at_call 69; refine (c_spec_AmountText cpu _ Hc.out).mono ?_; rintro e wa ⟨rfl, hbwa⟩; have hbwwa : Below w1.heap.size w1 wa := bel; obtain ⟨x0, x1, x2, x3, x4, x5, xf⟩ := row6 ((hbwwa.block (w.heap.size + 1) l1).trans HRow.out); have hszwa := Nat.lt_of_lt_of_le l1 hbwwa.size) | (go_simp; go_at_call 68; refine (c_spec_TextTree (amtS cpu) _).mono ?_; rintro e wb ⟨rfl, hbwb⟩; have hbwwb : Below w1.heap.size w1 wb := bel; obtain ⟨x0, x1, x2, x3, x4, x5, xf⟩ := row6 ((hbwwb.block (w.heap.size + 1) l1).trans HRow.out); have hszwb := Nat.lt_of_lt_of_le l1 hbwwb.size) | (go_simp; go_at_call 24; refine (c_l20PutG (n + 2) _ _ hCpu (leafD (amtS cpu)) (leafC (amtS cpu)) _ _ (w.heap.size + 2) (some (w.heap.size + 1)) w1 _ HGr.out bel (own_leafT Hsz.out.1.1) (fun q e => by injection e with e; omega) (by omega) rfl (by intro x hx; simp at hx) (by intro x hx; simp at hx) (by decide)).mono ?_; rintro e wB ⟨E4, E5, m4, d4, m5, d5, rfl, hg, e1, e2, hbB⟩; have hBW : Below w1.heap.size w1 wB := bel; have T1 := (hBW.block (w.heap.size + 1) l1).trans HRow.out; have Z1 := (hBW.block w.heap.size lz).trans HR1.out; obtain ⟨y0, y1, y2, y3, y4, y5, yf⟩ := row6 T1; have l2 := row_lt T1; have lz2 := row_lt Z1))
    all_goals
      have n1 : (Value.slice E4 m4 d4).ownBlock ≠ some (w.heap.size + 1) := fun e => by have := e1 _ e; (try simp at this); omega
      have n2 : (Value.slice E5 m5 d5).ownBlock ≠ some (w.heap.size + 1) := fun e => by have := e2 _ e; (try simp at this); omega
      have HT1 := Lib.hid T1
      have HZ1 := Lib.hid Z1
      have Hg := Lib.hid hg
      have HbW := Lib.hid hBW
      clear y0 y1 y2 y3 y4 y5 yf T1 Z1 hg e1 e2
      (try go_wp2_with fail)
      go_meet
      have hF : Aside (fun b => b = (w.heap.size + 1)) wB _ := set6_aside wB (w.heap.size + 1) (.slice E4 m4 d4) (.slice E5 m5 d5)
      exact ⟨GMap.of_put Hg.out hF (six_set _ _ _ _ _ _ HT1.out) n1 n2, (hF.block w.heap.size lz2 (by omega)).trans HZ1.out, (HB1.out.trans (HbW.out.mono HB1.out.size)).trans (hF.below (HB1.out.trans (HbW.out.mono HB1.out.size)).size (fun i hi => by omega)), Nat.le_trans (Nat.le_trans z1 HbW.out.size) hF.size⟩
  case rest =>
    obtain ⟨hG, hR, hB, hz⟩ := hcut
    have HG2 := Lib.hid hG
    have HR2 := Lib.hid hR
    have HB2 := Lib.hid hB
    have z2 := hz
    obtain ⟨w2, hw2⟩ : ∃ x, x = wc := ⟨_, rfl⟩
    rw [← hw2] at HG2 HR2 HB2 z2 ⊢
    clear hG hR hB hz hw2
    go_upto_region 3 with fail
    go_cut [] from 18 to 21 (fun wx => GMap (n + 2) (w.heap.size + 2) (w.heap.size + 1) wx ([hCpu, hKind]) ([leafD (amtS cpu), leafD kind]) ∧ wx.heap[w.heap.size]? = some (.cells #[.int .i64 0, .bool false, .int .i64 0, .string ⟨#[]⟩, .slice none 0 0, .slice none 0 0] 30 (0, 0)) ∧ Below w.heap.size w wx ∧ w.heap.size + 2 ≤ wx.heap.size)
    case first =>
      obtain ⟨A4, A5, n4, c4, n5, c5, hrow, hgr, -, -⟩ := HG2.out.open
      obtain ⟨x0, x1, x2, x3, x4, x5, xf⟩ := row6 hrow
      have l1 := row_lt hrow
      have lz := row_lt HR2.out
      have HRow := Lib.hid hrow
      have HGr := Lib.hid hgr
      clear hrow hgr
      go_region_law (first | (go_simp; go_at_call 68; refine (c_spec_TextTree kind _).mono ?_; rintro e wb ⟨rfl, hbwb⟩; have hbwwb : Below w2.heap.size w2 wb := bel; obtain ⟨x0, x1, x2, x3, x4, x5, xf⟩ := row6 ((hbwwb.block (w.heap.size + 1) l1).trans HRow.out); have hszwb := Nat.lt_of_lt_of_le l1 hbwwb.size) | (go_simp; go_at_call 24; refine (c_l20PutG (n + 2) _ _ hKind (leafD kind) (leafC kind) _ _ (w.heap.size + 2) (some (w.heap.size + 1)) w2 _ HGr.out bel (own_leafT Hsz.out.2.1) (fun q e => by injection e with e; omega) (by omega) rfl (by intro x hx; simp at hx; subst hx; decide) (by intro x hx; simp at hx; subst hx; exact lt_cpu_kind) (by decide)).mono ?_; rintro e wB ⟨E4, E5, m4, d4, m5, d5, rfl, hg, e1, e2, hbB⟩; have hBW : Below w2.heap.size w2 wB := bel; have T1 := (hBW.block (w.heap.size + 1) l1).trans HRow.out; have Z1 := (hBW.block w.heap.size lz).trans HR2.out; obtain ⟨y0, y1, y2, y3, y4, y5, yf⟩ := row6 T1; have l2 := row_lt T1; have lz2 := row_lt Z1))
      all_goals
        have n1 : (Value.slice E4 m4 d4).ownBlock ≠ some (w.heap.size + 1) := fun e => by have := e1 _ e; (try simp at this); omega
        have n2 : (Value.slice E5 m5 d5).ownBlock ≠ some (w.heap.size + 1) := fun e => by have := e2 _ e; (try simp at this); omega
        have HT1 := Lib.hid T1
        have HZ1 := Lib.hid Z1
        have Hg := Lib.hid hg
        have HbW := Lib.hid hBW
        clear y0 y1 y2 y3 y4 y5 yf T1 Z1 hg e1 e2
        (try go_wp2_with fail)
        go_meet
        have hF : Aside (fun b => b = (w.heap.size + 1)) wB _ := set6_aside wB (w.heap.size + 1) (.slice E4 m4 d4) (.slice E5 m5 d5)
        exact ⟨GMap.of_put Hg.out hF (six_set _ _ _ _ _ _ HT1.out) n1 n2, (hF.block w.heap.size lz2 (by omega)).trans HZ1.out, (HB2.out.trans (HbW.out.mono HB2.out.size)).trans (hF.below (HB2.out.trans (HbW.out.mono HB2.out.size)).size (fun i hi => by omega)), Nat.le_trans (Nat.le_trans z2 HbW.out.size) hF.size⟩
    case rest =>
      obtain ⟨hG, hR, hB, hz⟩ := hcut
      have HG3 := Lib.hid hG
      have HR3 := Lib.hid hR
      have HB3 := Lib.hid hB
      have z3 := hz
      obtain ⟨w3, hw3⟩ : ∃ x, x = wc := ⟨_, rfl⟩
      rw [← hw3] at HG3 HR3 HB3 z3 ⊢
      clear hG hR hB hz hw3
      go_upto_if 24 with fail
      go_cut [] from 24 to 28 (fun wx => GMap (n + 2) (w.heap.size + 2) (w.heap.size + 1) wx ([hCpu, hKind] ++ optK (!l.isEmpty) hLabels) ([leafD (amtS cpu), leafD kind] ++ optD (!l.isEmpty) (labelsT l)) ∧ wx.heap[w.heap.size]? = some (.cells #[.int .i64 0, .bool false, .int .i64 0, .string ⟨#[]⟩, .slice none 0 0, .slice none 0 0] 30 (0, 0)) ∧ Below w.heap.size w wx ∧ w.heap.size + 2 ≤ wx.heap.size)
      case first =>
        by_cases h0 : l.length = 0
        · have HE := Lib.hid (emp_no h0)
          have hl0 : ¬ (0 : Int) < l.length := by omega
          clear h0
          go_wp2_with fail
          go_meet
          rw [HE.out]
          exact ⟨HG3.out, HR3.out, HB3.out, z3⟩
        · have HE := Lib.hid (emp_yes h0)
          have hl0 : (0 : Int) < l.length := by omega
          clear h0
          obtain ⟨A4, A5, n4, c4, n5, c5, hrow, hgr, -, -⟩ := HG3.out.open
          obtain ⟨x0, x1, x2, x3, x4, x5, xf⟩ := row6 hrow
          have l1 := row_lt hrow
          have lz := row_lt HR3.out
          have HRow := Lib.hid hrow
          have HGr := Lib.hid hgr
          clear hrow hgr
          go_wp2_with fail
          go_region_law (first | (go_simp; go_at_call 70; refine (c_spec_LabelsTree n l _ _ lo (HS.out.keep (same_below (Below.trans HB3.out (Below.mono (bel : Below w3.heap.size w3 _) HB3.out.size))) (Nat.le_refl _) (Below.size (Below.trans HB3.out (Below.mono (bel : Below w3.heap.size w3 _) HB3.out.size))))).mono ?_; rintro e wa ⟨cs, rfl, hO, hbwa⟩; have hbwwa : Below w3.heap.size w3 wa := bel; obtain ⟨x0, x1, x2, x3, x4, x5, xf⟩ := row6 ((hbwwa.block (w.heap.size + 1) l1).trans HRow.out); have hszwa := Nat.lt_of_lt_of_le l1 hbwwa.size) | (go_simp; go_at_call 24; refine (c_l20PutG (n + 2) _ _ hLabels (labelsT l) cs _ _ (w.heap.size + 2) (some (w.heap.size + 1)) w3 _ HGr.out bel (hO.carry (fun b hb => rfl) (fun b hb => hb)) (fun q e => by injection e with e; omega) (by omega) rfl (by intro x hx; simp at hx; rcases hx with rfl | rfl <;> decide) (by intro x hx; simp at hx; rcases hx with rfl | rfl; exact lt_cpu_labels; exact lt_kind_labels) (by decide)).mono ?_; rintro e wB ⟨E4, E5, m4, d4, m5, d5, rfl, hg, e1, e2, hbB⟩; have hBW : Below w3.heap.size w3 wB := bel; have T1 := (hBW.block (w.heap.size + 1) l1).trans HRow.out; have Z1 := (hBW.block w.heap.size lz).trans HR3.out; obtain ⟨y0, y1, y2, y3, y4, y5, yf⟩ := row6 T1; have l2 := row_lt T1; have lz2 := row_lt Z1))
          all_goals
            have n1 : (Value.slice E4 m4 d4).ownBlock ≠ some (w.heap.size + 1) := fun e => by have := e1 _ e; (try simp at this); omega
            have n2 : (Value.slice E5 m5 d5).ownBlock ≠ some (w.heap.size + 1) := fun e => by have := e2 _ e; (try simp at this); omega
            have HT1 := Lib.hid T1
            have HZ1 := Lib.hid Z1
            have Hg := Lib.hid hg
            have HbW := Lib.hid hBW
            clear y0 y1 y2 y3 y4 y5 yf T1 Z1 hg e1 e2
            (try go_wp2_with fail)
            go_meet
            rw [HE.out]
            have hF : Aside (fun b => b = (w.heap.size + 1)) wB _ := set6_aside wB (w.heap.size + 1) (.slice E4 m4 d4) (.slice E5 m5 d5)
            exact ⟨GMap.of_put Hg.out hF (six_set _ _ _ _ _ _ HT1.out) n1 n2, (hF.block w.heap.size lz2 (by omega)).trans HZ1.out, (HB3.out.trans (HbW.out.mono HB3.out.size)).trans (hF.below (HB3.out.trans (HbW.out.mono HB3.out.size)).size (fun i hi => by omega)), Nat.le_trans (Nat.le_trans z3 HbW.out.size) hF.size⟩
      case rest =>
        obtain ⟨hG, hR, hB, hz⟩ := hcut
        have HG4 := Lib.hid hG
        have HR4 := Lib.hid hR
        have HB4 := Lib.hid hB
        have z4 := hz
        obtain ⟨w4, hw4⟩ : ∃ x, x = wc := ⟨_, rfl⟩
        rw [← hw4] at HG4 HR4 HB4 z4 ⊢
        clear hG hR hB hz hw4
        have hoK := optK_len (!l.isEmpty) hLabels
        have hoD := optKD (!l.isEmpty) hLabels (labelsT l)
        have HoK := Lib.hid (And.intro hoK hoD)
        clear hoK hoD
        go_upto_region 6 with fail
        go_cut [] from 29 to 33 (fun wx => GMap (n + 2) (w.heap.size + 2) (w.heap.size + 1) wx ([hCpu, hKind] ++ optK (!l.isEmpty) hLabels ++ [hMem]) ([leafD (amtS cpu), leafD kind] ++ optD (!l.isEmpty) (labelsT l) ++ [leafD (amtS mem)]) ∧ wx.heap[w.heap.size]? = some (.cells #[.int .i64 0, .bool false, .int .i64 0, .string ⟨#[]⟩, .slice none 0 0, .slice none 0 0] 30 (0, 0)) ∧ Below w.heap.size w wx ∧ w.heap.size + 2 ≤ wx.heap.size)
        case first =>
          obtain ⟨A4, A5, n4, c4, n5, c5, hrow, hgr, -, -⟩ := HG4.out.open
          obtain ⟨x0, x1, x2, x3, x4, x5, xf⟩ := row6 hrow
          have l1 := row_lt hrow
          have lz := row_lt HR4.out
          have HRow := Lib.hid hrow
          have HGr := Lib.hid hgr
          clear hrow hgr
          go_region_law (first | (go_simp; go_at_call 69; refine (c_spec_AmountText mem _ Hm.out).mono ?_; rintro e wa ⟨rfl, hbwa⟩; have hbwwa : Below w4.heap.size w4 wa := bel; obtain ⟨x0, x1, x2, x3, x4, x5, xf⟩ := row6 ((hbwwa.block (w.heap.size + 1) l1).trans HRow.out); have hszwa := Nat.lt_of_lt_of_le l1 hbwwa.size) | (go_simp; go_at_call 68; refine (c_spec_TextTree (amtS mem) _).mono ?_; rintro e wb ⟨rfl, hbwb⟩; have hbwwb : Below w4.heap.size w4 wb := bel; obtain ⟨x0, x1, x2, x3, x4, x5, xf⟩ := row6 ((hbwwb.block (w.heap.size + 1) l1).trans HRow.out); have hszwb := Nat.lt_of_lt_of_le l1 hbwwb.size) | (go_simp; go_at_call 24; refine (c_l20PutG (n + 2) _ _ hMem (leafD (amtS mem)) (leafC (amtS mem)) _ _ (w.heap.size + 2) (some (w.heap.size + 1)) w4 _ HGr.out bel (own_leafT Hsz.out.1.2) (fun q e => by injection e with e; omega) (by omega) (by have := HoK.out; simp; omega) (by intro x hx; exact Hhd.out x (by unfold headK; simp at hx ⊢; rcases hx with h | h | h <;> simp [h])) (by intro x hx; simp at hx; rcases hx with rfl | rfl | h; exact lt_cpu_mem; exact lt_kind_mem; unfold optK at h; split at h; (simp at h; subst h; exact lt_labels_mem); cases h) (by have := HoK.out; simp; omega)).mono ?_; rintro e wB ⟨E4, E5, m4, d4, m5, d5, rfl, hg, e1, e2, hbB⟩; have hBW : Below w4.heap.size w4 wB := bel; have T1 := (hBW.block (w.heap.size + 1) l1).trans HRow.out; have Z1 := (hBW.block w.heap.size lz).trans HR4.out; obtain ⟨y0, y1, y2, y3, y4, y5, yf⟩ := row6 T1; have l2 := row_lt T1; have lz2 := row_lt Z1))
          all_goals
            have n1 : (Value.slice E4 m4 d4).ownBlock ≠ some (w.heap.size + 1) := fun e => by have := e1 _ e; (try simp at this); omega
            have n2 : (Value.slice E5 m5 d5).ownBlock ≠ some (w.heap.size + 1) := fun e => by have := e2 _ e; (try simp at this); omega
            have HT1 := Lib.hid T1
            have HZ1 := Lib.hid Z1
            have Hg := Lib.hid hg
            have HbW := Lib.hid hBW
            clear y0 y1 y2 y3 y4 y5 yf T1 Z1 hg e1 e2
            (try go_wp2_with fail)
            go_meet
            have hF : Aside (fun b => b = (w.heap.size + 1)) wB _ := set6_aside wB (w.heap.size + 1) (.slice E4 m4 d4) (.slice E5 m5 d5)
            exact ⟨GMap.of_put Hg.out hF (six_set _ _ _ _ _ _ HT1.out) n1 n2, (hF.block w.heap.size lz2 (by omega)).trans HZ1.out, (HB4.out.trans (HbW.out.mono HB4.out.size)).trans (hF.below (HB4.out.trans (HbW.out.mono HB4.out.size)).size (fun i hi => by omega)), Nat.le_trans (Nat.le_trans z4 HbW.out.size) hF.size⟩
        case rest =>
          obtain ⟨hG, hR, hB, hz⟩ := hcut
          have HG5 := Lib.hid hG
          have HR5 := Lib.hid hR
          have HB5 := Lib.hid hB
          have z5 := hz
          obtain ⟨w5, hw5⟩ : ∃ x, x = wc := ⟨_, rfl⟩
          rw [← hw5] at HG5 HR5 HB5 z5 ⊢
          clear hG hR hB hz hw5
          go_upto_region 7 with fail
          go_cut [] from 34 to 37 (fun wx => ∃ (A4 A5 : Option Addr) (n4 c4 n5 c5 : Nat), wx.heap[w.heap.size]? = some (.cells #[.int .i64 6, .bool false, .int .i64 0, .string ⟨#[]⟩, .slice A4 n4 c4, .slice A5 n5 c5] 30 (0, 0)) ∧ GRow (n + 2) w.heap.size none wx (headK l) (headT kind name l cpu mem) (.slice A4 n4 c4) (.slice A5 n5 c5) ∧ Below w.heap.size w wx)
          case first =>
            obtain ⟨A4, A5, n4, c4, n5, c5, hrow, hgr, -, -⟩ := HG5.out.open
            obtain ⟨x0, x1, x2, x3, x4, x5, xf⟩ := row6 hrow
            have l1 := row_lt hrow
            have lz := row_lt HR5.out
            have HRow := Lib.hid hrow
            have HGr := Lib.hid hgr
            clear hrow hgr
            go_region_law (first | (go_simp; go_at_call 68; refine (c_spec_TextTree name _).mono ?_; rintro e wb ⟨rfl, hbwb⟩; have hbwwb : Below w5.heap.size w5 wb := bel; obtain ⟨x0, x1, x2, x3, x4, x5, xf⟩ := row6 ((hbwwb.block (w.heap.size + 1) l1).trans HRow.out); have hszwb := Nat.lt_of_lt_of_le l1 hbwwb.size) | (go_simp; go_at_call 24; refine (c_l20PutG (n + 2) _ _ hName (leafD name) (leafC name) _ _ (w.heap.size + 2) (some (w.heap.size + 1)) w5 _ HGr.out bel (own_leafT Hsz.out.2.2) (fun q e => by injection e with e; omega) (by omega) (by have := HoK.out; simp; omega) (by intro x hx; exact Hhd.out x (by unfold headK; simp at hx ⊢; rcases hx with h | h | h | h <;> simp [h])) (by intro x hx; simp at hx; rcases hx with rfl | rfl | h | rfl; exact lt_cpu_name; exact lt_kind_name; (unfold optK at h; split at h; (simp at h; subst h; exact lt_labels_name); cases h); exact lt_mem_name) (by have := HoK.out; simp; omega)).mono ?_; rintro e wB ⟨E4, E5, m4, d4, m5, d5, rfl, hg, e1, e2, hbB⟩; have hBW : Below w5.heap.size w5 wB := bel; have T1 := (hBW.block (w.heap.size + 1) l1).trans HRow.out; have Z1 := (hBW.block w.heap.size lz).trans HR5.out; obtain ⟨y0, y1, y2, y3, y4, y5, yf⟩ := row6 Z1; have l2 := row_lt T1; have lz2 := row_lt Z1))
            all_goals
              have HZ1 := Lib.hid Z1
              have Hg := Lib.hid hg
              have HbW := Lib.hid hBW
              clear y0 y1 y2 y3 y4 y5 yf T1 Z1 hg e1 e2
              (try go_wp2_with fail)
              go_meet
              have hF : Aside (fun b => b = w.heap.size) wB _ := set6_aside wB w.heap.size (.slice E4 m4 d4) (.slice E5 m5 d5)
              rw [headK_eq, headT_eq]
              exact ⟨E4, E5, m4, d4, m5, d5, six_set _ _ _ _ _ _ HZ1.out, GRow.less (base := w.heap.size + 2) (GRow.carry Hg.out.free hF.size (fun q q1 q2 => hF.block q q2 (by omega))) (by omega), (HB5.out.trans (HbW.out.mono HB5.out.size)).trans (hF.below (HB5.out.trans (HbW.out.mono HB5.out.size)).size (fun i hi => by omega))⟩
          case rest =>
            obtain ⟨A4, A5, n4, c4, n5, c5, hrow, hgr, hB⟩ := hcut
            obtain ⟨x0, x1, x2, x3, x4, x5, xf⟩ := row6 hrow
            have HGr := Lib.hid hgr
            have HBe := Lib.hid hB
            clear hgr hB
            go_wp2_with fail
            exact bodyPost_ret (v := .agg #[.int .i64 6, .bool false, .int .i64 0, .string ⟨#[]⟩, .slice A4 n4 c4, .slice A5 n5 c5]) (by simp only [results, Tryz.results23]; go_simp) rfl ⟨_, _, rfl, HGr.out, HBe.out⟩
end Go.Proofs.YteecgklmdfockaaGreatDoor
