/- Steps to FnExactIndentedOk and FnExactIndentedNormal and FnExactCrossed. No conditions. -/
import Derived.Test.YtohcpifekcehjaaGreatDoorKind3
import Derived.Lib.AppendStr
import Derived.Laws.IdiomStrings
import Derived.Lib.BufferRead
import Derived.Test.YtohcpifekcehjaaGreatDoorKind1
import Derived.Lib.ItoaNum
import Derived.Test.YtohcpifekcehjaaGreatDoorKind2
import Derived.Lib.AtoiAllCases
import Derived.Lib.MapLaws
import Derived.Deep.CutRange
import Derived.Deep.CutBlock
import Derived.Deep.RegionLaw
set_option maxHeartbeats 16000000
set_option maxRecDepth 20000
namespace Go.Proofs.YtohcpifekcehjaaGreatDoor
open Go.RowKit Go.Lib
theorem escB_next (s : ByteArray) (i : Nat) : ((escB s i).2 < 0 ∨ ((i : Int) < (escB s i).2 /\ (escB s i).2 <= s.size)) /\ 0 <= (escB s i).1 /\ (escB s i).1 <= 1114111 := by
 have f1 := @fourB_fits s (i + 1)
 have f7 := @fourB_fits s (i + 7)
 have r1 := fourB_range s (i + 1)
 have r7 := fourB_range s (i + 7)
 have b0 := byteI_range s i
 obtain ⟨x, hx⟩ : ∃ x, x = escB s i := ⟨_, rfl⟩
 rw [<- hx]
 unfold escB at hx
 by_cases c0 : i < s.size
 case neg => rw [if_neg c0] at hx; subst hx; simp only; omega
 rw [if_pos c0] at hx
 by_cases c1 : byteI s i = 34 ∨ byteI s i = 92 ∨ byteI s i = 47
 case pos => rw [if_pos c1] at hx; subst hx; simp only; omega
 rw [if_neg c1] at hx
 by_cases c2 : byteI s i = 98
 case pos => rw [if_pos c2] at hx; subst hx; simp only; omega
 rw [if_neg c2] at hx
 by_cases c3 : byteI s i = 102
 case pos => rw [if_pos c3] at hx; subst hx; simp only; omega
 rw [if_neg c3] at hx
 by_cases c4 : byteI s i = 110
 case pos => rw [if_pos c4] at hx; subst hx; simp only; omega
 rw [if_neg c4] at hx
 by_cases c5 : byteI s i = 114
 case pos => rw [if_pos c5] at hx; subst hx; simp only; omega
 rw [if_neg c5] at hx
 by_cases c6 : byteI s i = 116
 case pos => rw [if_pos c6] at hx; subst hx; simp only; omega
 rw [if_neg c6] at hx
 by_cases c7 : byteI s i = 117
 case neg => rw [if_neg c7] at hx; subst hx; simp only; omega
 rw [if_pos c7] at hx
 by_cases d1 : fourB s (i + 1) < 0 ∨ inB (fourB s (i + 1)) 56320 57343 = true
 case pos => rw [if_pos d1] at hx; subst hx; simp only; omega
 rw [if_neg d1] at hx
 have d0 := (not_or.1 d1).1
 have g1 := f1 (Int.not_lt.1 d0)
 by_cases d2 : inB (fourB s (i + 1)) 55296 56319 = false
 case pos => rw [if_pos d2] at hx; subst hx; simp only; omega
 rw [if_neg d2] at hx
 have e2 : 55296 <= fourB s (i + 1) /\ fourB s (i + 1) <= 56319 := by unfold inB at d2; simpa using d2
 by_cases d3 : s.size < i + 7 ∨ byteI s (i + 5) ≠ 92 ∨ byteI s (i + 6) ≠ 117
 case pos => rw [if_pos d3] at hx; subst hx; simp only; omega
 rw [if_neg d3] at hx
 by_cases d4 : inB (fourB s (i + 7)) 56320 57343 = true
 case neg => rw [if_neg d4] at hx; subst hx; simp only; omega
 rw [if_pos d4] at hx
 have e4 : 56320 <= fourB s (i + 7) /\ fourB s (i + 7) <= 57343 := by unfold inB at d4; simpa using d4
 have g7 := f7 (by omega)
 subst hx
 simp only
 omega
theorem runeB_next (s : ByteArray) (i : Nat) : ((runeB s i).2 < 0 ∨ ((i : Int) < (runeB s i).2 /\ (runeB s i).2 <= s.size)) /\ 0 <= (runeB s i).1 /\ (runeB s i).1 <= 1114111 := by
 unfold runeB
 split
 ·rename_i h
  have := decode_fits s i h
  split
  ·simp only; omega
  ·simp only; omega
 ·simp only; omega
def quotN (s : ByteArray) (j : Nat) : Int × Int :=
 if byteI s j = 92 then escB s (j + 1) else if (runeB s j).1 < 32 then (0, -1) else runeB s j
theorem quotN_next (s : ByteArray) (j : Nat) : ((quotN s j).2 < 0 ∨ ((j : Int) < (quotN s j).2 /\ (quotN s j).2 <= s.size)) /\ 0 <= (quotN s j).1 /\ (quotN s j).1 <= 1114111 := by
 have h1 := escB_next s (j + 1)
 have h2 := runeB_next s j
 unfold quotN
 split
 ·omega
 ·split
  ·simp only; omega
  ·exact h2
def quotR (s : ByteArray) : Nat -> Nat -> List UInt8 -> ByteArray × Int
 | 0, _, _ => (⟨#[]⟩, -1)
 | k + 1, j, acc => if j < s.size then (if byteI s j = 34 then (⟨acc.toArray⟩, (j : Int) + 1) else if (quotN s j).2 < 0 then (⟨#[]⟩, -1) else quotR s k (quotN s j).2.toNat (acc ++ (textB (quotN s j).1).data.toList)) else (⟨#[]⟩, -1)
theorem quotR_fuel (s : ByteArray) : ∀ (k l j : Nat) (acc : List UInt8), s.size - j <= k -> s.size - j <= l -> quotR s k j acc = quotR s l j acc
 | 0, 0, _, _, _, _ => rfl
 | 0, l + 1, j, acc, h, _ => by unfold quotR; rw [if_neg (by omega)]
 | k + 1, 0, j, acc, _, h => by unfold quotR; rw [if_neg (by omega)]
 | k + 1, l + 1, j, acc, h1, h2 => by
  unfold quotR
  split
  ·split
   ·rfl
   ·split
    ·rfl
    ·have := (quotN_next s j).1
     exact quotR_fuel s k l _ _ (by omega) (by omega)
  ·rfl
def quotG (s : ByteArray) (j : Nat) (acc : List UInt8) : ByteArray × Int := quotR s (s.size - j) j acc
theorem quotG_end {s : ByteArray} {j : Nat} {acc : List UInt8} (h : ¬ j < s.size) : quotG s j acc = (⟨#[]⟩, -1) := by
 unfold quotG
 rw [show s.size - j = 0 by omega]
 rfl
theorem quotG_at {s : ByteArray} {j : Nat} {acc : List UInt8} (h : j < s.size) : quotG s j acc = if byteI s j = 34 then (⟨acc.toArray⟩, (j : Int) + 1) else if (quotN s j).2 < 0 then (⟨#[]⟩, -1) else quotG s (quotN s j).2.toNat (acc ++ (textB (quotN s j).1).data.toList) := by
 unfold quotG
 obtain ⟨k, hk⟩ : ∃ k, s.size - j = k + 1 := ⟨s.size - j - 1, by omega⟩
 rw [hk, quotR, if_pos h]
 split
 ·rfl
 ·split
  ·rfl
  ·have := (quotN_next s j).1
   exact quotR_fuel s _ _ _ _ (by omega) (by omega)
def quotB (s : ByteArray) (i : Nat) : ByteArray × Int := if i < s.size then (if byteI s i = 34 then quotG s (i + 1) [] else (⟨#[]⟩, -1)) else (⟨#[]⟩, -1)
theorem textB_size (n : Int) : (textB n).size <= 4 := by
 rcases Int.lt_or_le n 0 with h | h
 ·have : textB n = ⟨#[]⟩ := by
   unfold textB runeOkB
   rw [decide_eq_false (by omega)]
   rfl
  rw [this]
  decide
 ·obtain ⟨m, rfl⟩ : ∃ m : Nat, n = m := ⟨n.toNat, by omega⟩
  have h1 := congrArg List.length (textB_list m)
  rw [List.length_map, Array.length_toList] at h1
  have h2 : (encN4 m).length <= 4 := by
   unfold encN4
   repeat' split
   all_goals simp
  rw [show (textB m).size = (textB m).data.size from rfl]
  omega
theorem own_string {w : World} {base n c : Nat} {A : Option Addr} {M : List UInt8} (hn : n = M.length)
  (h : w.ownsRow base 5 1 (.slice A n c) n (Lib.strCells ⟨M.toArray⟩)) :
  (convert 28 9 (.slice A n c)).run Tryz.prog w = .ok (.string ⟨M.toArray⟩) w := by
 subst hn
 rcases h.2 with ⟨h1, h2⟩ | ⟨g, cap, cur, h1, _⟩
 ·obtain rfl : M = [] := List.eq_nil_of_length_eq_zero h2
  cases h1
  exact run_convert_nil_bytes w 28 9 5 0 Tryz.underlying28 Tryz.underlying5 Tryz.underlying9
 ·have e1 : A = some ⟨g, 0, none⟩ := by cases h1; rfl
  subst e1
  exact run_convert_bytes_back w 28 9 5 ⟨g, 0, none⟩ c M Tryz.underlying28 Tryz.underlying5 Tryz.underlying9
   (fun j hj => h.cells rfl j _ (by simp [Lib.strCells, hj]))
theorem strCells_list (l : List UInt8) (t : ByteArray) : Lib.strCells ⟨l.toArray⟩ ++ Lib.strCells t = Lib.strCells ⟨(l ++ t.data.toList).toArray⟩ := by
 simp [Lib.strCells]
open Go.RowKit
def tNull : TreeD := ⟨1, false, 0, ⟨#[]⟩, [], []⟩
def tFlag (b : Bool) : TreeD := ⟨2, b, 0, ⟨#[]⟩, [], []⟩
def tInt (n : Int) : TreeD := ⟨3, false, n, ⟨#[]⟩, [], []⟩
def tText (s : ByteArray) : TreeD := ⟨4, false, 0, s, [], []⟩
def tList (l : List TreeD) : TreeD := ⟨5, false, 0, ⟨#[]⟩, [], l⟩
def tMap (ks : List ByteArray) (l : List TreeD) : TreeD := ⟨6, false, 0, ⟨#[]⟩, ks, l⟩
def posK (ks : List ByteArray) (key : ByteArray) : Nat := (ks.takeWhile fun k => lessS k key).length
def insL {D : Type} (l : List D) (i : Nat) (x : D) : List D := l.take i ++ x :: l.drop i
def decS (n : Int) : ByteArray := ⟨(Lib.itoa n).toArray⟩
theorem dec_len : ∀ (k u : Nat), u < 10 ^ (k + 1) -> (Lib.decDigits u).length <= k + 1
 | 0, u, h => by
  rw [Lib.decDigits, dif_pos (by simpa using h)]
  simp
 | k + 1, u, h => by
  rw [Lib.decDigits]
  by_cases h10 : u < 10
  ·rw [dif_pos h10]; simp
  ·rw [dif_neg h10, List.length_append]
   have h2 : u / 10 < 10 ^ (k + 1) := by
    rw [Nat.div_lt_iff_lt_mul (by decide)]
    rw [Nat.pow_succ] at h
    exact h
   have := dec_len k (u / 10) h2
   simp
   omega
theorem decS_size (n : Int) (hn : -9223372036854775808 <= n /\ n <= 9223372036854775807) : (decS n).size <= 20 := by
 show (Lib.itoa n).toArray.size <= 20
 rw [List.size_toArray]
 unfold Lib.itoa
 split
 ·have := dec_len 18 n.natAbs (by omega)
  rw [List.length_cons]
  omega
 ·have := dec_len 18 n.toNat (by omega)
  omega
theorem app_assoc (a b c : ByteArray) : a ++ b ++ c = a ++ (b ++ c) := ByteArray.append_assoc
theorem mkL_dec (u : Nat) (hu : 0 < u) (out : ByteArray) : mkL u out = ⟨(Lib.decDigits u).toArray⟩ ++ out := by
 induction u using Nat.strongRecOn generalizing out with
 | ind u ih =>
  rw [mkL_pos u out hu, Lib.decDigits]
  by_cases h : u < 10
  ·rw [dif_pos h]
   have h0 : u / 10 = 0 := by omega
   rw [h0, mkL_zero]
   unfold digit
   rw [Nat.mod_eq_of_lt h]
  ·rw [dif_neg h, ih (u / 10) (by omega) (by omega)]
   rw [<- app_assoc]
   congr 1
theorem decS_zero : decS 0 = ⟨#[48]⟩ := by
 unfold decS Lib.itoa
 rw [if_neg (by decide)]
 unfold Lib.decDigits
 rfl
theorem decS_pos (u : Nat) (hu : 0 < u) : decS u = mkL u ⟨#[]⟩ := by
 rw [mkL_dec u hu]
 unfold decS Lib.itoa
 rw [if_neg (by omega)]
 apply ByteArray.ext
 simp
theorem decS_neg (u : Nat) (hu : 0 < u) : decS (-(u : Int)) = ⟨#[45]⟩ ++ mkL u ⟨#[]⟩ := by
 rw [mkL_dec u hu]
 unfold decS Lib.itoa
 rw [if_pos (by omega)]
 apply ByteArray.ext
 simp
theorem c_spec_l01Figure (r : Nat) (w : World) (hr : r < 10) :
  Calls Tryz.prog 218 #[.int .i64 (r : Nat)] w fun e w' => e = .returned (.int .u8 (48 + (r : Int))) /\ w = w' := by
 have h1 : (r : Int) < 10 := by omega
 have h0 : (0 : Int) <= r := by omega
 go_enter Tryz.func218, Tryz.ntmps218
 go_wp2_with fail
 go_ret
 exact ⟨by first | rfl | (congr 2; omega), rfl⟩
theorem tmod_neg10 (j : Nat) : (-(j : Int)).tmod 10 = -((j % 10 : Nat) : Int) := by
 rw [Int.neg_tmod, Int.tmod_eq_emod_of_nonneg (by omega)]
 omega
theorem tdiv_neg10 (j : Nat) : (-(j : Int)).tdiv 10 = -((j / 10 : Nat) : Int) := by
 rw [Int.neg_tdiv, Int.tdiv_eq_ediv_of_nonneg (by omega)]
 omega
theorem figure_text (w : World) (j r : Nat) (hr : r = j % 10) : (convert 28 9 (.slice (some ⟨w.heap.size, 0, none⟩) 1 1)).run Tryz.prog (w.alloc (.cells #[.int .u8 (48 + (r : Int))] 5)) = .ok (.string (digit j)) (w.alloc (.cells #[.int .u8 (48 + (r : Int))] 5)) := by
 refine run_convert_bytes_back (P := Tryz.prog) _ 28 9 5 ⟨w.heap.size, 0, none⟩ 1 [UInt8.ofNat (48 + j % 10)] Tryz.underlying28 Tryz.underlying5 Tryz.underlying9 (fun i hi => ?_)
 obtain rfl : i = 0 := by simpa using hi
 have e : ((UInt8.ofNat (48 + j % 10)).toNat : Int) = 48 + (r : Int) := by
  rw [UInt8.toNat_ofNat']; omega
 have e2 : (⟨w.heap.size, 0, none⟩ : Addr).add 0 = ⟨w.heap.size, 0, none⟩ := rfl
 rw [e2, World.cell?_alloc_mark]
 simp only [List.getElem_cons_zero, e]
 rfl
theorem c_spec_Decimal (n : Int) (w : World) (hn : -9223372036854775808 <= n /\ n <= 9223372036854775807) :
  Calls Tryz.prog 160 #[.int .i64 n] w fun e w' => e = .returned (.string (decS n)) /\ Below w.heap.size w w' := by
 by_cases h0 : n = 0
 ·subst h0
  have HZ := Lib.hid decS_zero
  go_enter Tryz.func160, Tryz.ntmps160
  go_wp2_with fail
  go_ret
  exact ⟨by rw [HZ.out]; rfl, Below.refl _ _⟩
 ·by_cases hneg : n < 0
  ·obtain ⟨u, rfl⟩ : ∃ u : Nat, n = -(u : Int) := ⟨n.natAbs, by omega⟩
   have hu : 0 < u := by omega
   have HD := Lib.hid (decS_neg u hu)
   obtain ⟨hn1, hn2⟩ := hn
   have h0b : (-(u : Int) == 0) = false := beq_eq_false_iff_ne.2 h0
   have hnb : decide (-(u : Int) < 0) = true := decide_eq_true hneg
   clear h0
   go_enter Tryz.func160, Tryz.ntmps160
   go_wp2_with fail
   go_loopw [0, 4] (fun s0 s4 wr => ∃ (j : Nat) (out : ByteArray), s0 = .int .i64 (-(j : Int)) /\ s4 = .string out /\ mkL j out = mkL u ⟨#[]⟩ /\ out.size + j <= u /\ (out.size = 0 ∨ out.size + j <= u / 10 + 1) /\ Below w.heap.size w wr) (fun s0 _ _ => (intOf s0).natAbs)
   case atStart => exact ⟨u, ⟨#[]⟩, rfl, rfl, rfl, by show 0 + _ <= _; omega, .inl rfl, Below.refl _ _⟩
   case round =>
    obtain ⟨j, out, rfl, rfl, hm, hs, hs2, hbr⟩ := hrel
    have Hj := Lib.hid hm
    clear hm
    by_cases hj : 0 < j
    ·have hj0 : (-(j : Int) != 0) = true := bne_iff_ne.2 (by omega)
     have hj1 : -9223372036854775808 <= -(j : Int) := by omega
     obtain ⟨r, hr⟩ : ∃ r, r = j % 10 := ⟨_, rfl⟩
     have h1 := tmod_neg10 j
     have h2 := tdiv_neg10 j
     rw [<- hr] at h1
     have hr9 : r < 10 := by omega
     have hd1 : (digit j).size = 1 := rfl
     have Hn := Lib.hid (show mkL (j / 10) (digit j ++ out) = mkL u ⟨#[]⟩ by rw [<- Hj.out, mkL_pos j out hj])
     have Hz := Lib.hid (show (digit j ++ out).size + j / 10 <= u /\ ((digit j ++ out).size = 0 ∨ (digit j ++ out).size + j / 10 <= u / 10 + 1) by rw [ByteArray.size_append, hd1]; omega)
     have hcv := figure_text wr j r hr
     have hso : out.size <= 9223372036854775806 := by clear h1 h2; omega
     clear hr hs2
     by_cases hr0 : r = 0
     ·subst hr0
      have hcv0 := hcv
      rw [show (48 + ((0 : Nat) : Int)) = 48 from rfl] at hcv0
      clear hcv
      go_wp2_with fail
      refine (c_spec_l01Figure 0 _ hr9).mono ?_
      rintro e w9 ⟨rfl, rfl⟩
      go_wp2_with fail
      go_roundw
      case rel => exact ⟨j / 10, digit j ++ out, by go_num, rfl, Hn.out, Hz.out.1, Hz.out.2, bel⟩
      case measure => simp [intOf]; omega
     ·have hrn : -(r : Int) < 0 := by omega
      go_wp2_with fail
      refine (c_spec_l01Figure r _ hr9).mono ?_
      rintro e w9 ⟨rfl, rfl⟩
      go_wp2_with fail
      go_roundw
      case rel => exact ⟨j / 10, digit j ++ out, by go_num, rfl, Hn.out, Hz.out.1, Hz.out.2, bel⟩
      case measure => simp [intOf]; omega
    ·obtain rfl : j = 0 := by omega
     have HO := Lib.hid (show decS (-(u : Int)) = ⟨#[45]⟩ ++ out by rw [HD.out, <- Hj.out, mkL_zero])
     have hso : out.size <= 9223372036854775806 := by omega
     go_wp2_with fail
     go_ret
     exact ⟨by rw [HO.out]; rfl, bel⟩
  ·obtain ⟨u, rfl⟩ : ∃ u : Nat, n = (u : Int) := ⟨n.toNat, by omega⟩
   have hu : 0 < u := by omega
   have HD := Lib.hid (decS_pos u hu)
   obtain ⟨hn1, hn2⟩ := hn
   have h0b : ((u : Int) == 0) = false := beq_eq_false_iff_ne.2 h0
   have hnb : decide ((u : Int) < 0) = false := decide_eq_false hneg
   clear h0
   go_enter Tryz.func160, Tryz.ntmps160
   go_wp2_with fail
   go_loopw [0, 4] (fun s0 s4 wr => ∃ (j : Nat) (out : ByteArray), s0 = .int .i64 (j : Int) /\ s4 = .string out /\ mkL j out = mkL u ⟨#[]⟩ /\ out.size + j <= u /\ (out.size = 0 ∨ out.size + j <= u / 10 + 1) /\ Below w.heap.size w wr) (fun s0 _ _ => (intOf s0).natAbs)
   case atStart => exact ⟨u, ⟨#[]⟩, rfl, rfl, rfl, by show 0 + _ <= _; omega, .inl rfl, Below.refl _ _⟩
   case round =>
    obtain ⟨j, out, rfl, rfl, hm, hs, hs2, hbr⟩ := hrel
    have Hj := Lib.hid hm
    clear hm
    by_cases hj : 0 < j
    ·have hj0 : ((j : Int) != 0) = true := bne_iff_ne.2 (by omega)
     have hj2 : (0 : Int) <= j := by omega
     have hj3 : (j : Int) <= 9223372036854775807 := by omega
     have hr9 : j % 10 < 10 := by omega
     have hd1 : (digit j).size = 1 := rfl
     have Hn := Lib.hid (show mkL (j / 10) (digit j ++ out) = mkL u ⟨#[]⟩ by rw [<- Hj.out, mkL_pos j out hj])
     have Hz := Lib.hid (show (digit j ++ out).size + j / 10 <= u /\ ((digit j ++ out).size = 0 ∨ (digit j ++ out).size + j / 10 <= u / 10 + 1) by rw [ByteArray.size_append, hd1]; omega)
     have hcv := figure_text wr j (j % 10) rfl
     rw [show ((j % 10 : Nat) : Int) = (j : Int) % 10 from by omega] at hcv
     have hso : out.size <= 9223372036854775806 := by omega
     have hge : ¬ (j : Int) % 10 < 0 := by omega
     clear hs2
     go_wp2_with fail
     refine (c_spec_l01Figure (j % 10) _ hr9).mono ?_
     rintro e w9 ⟨rfl, rfl⟩
     go_wp2_with fail
     go_roundw
     case rel => exact ⟨j / 10, digit j ++ out, by go_num, rfl, Hn.out, Hz.out.1, Hz.out.2, bel⟩
     case measure => simp [intOf]; omega
    ·obtain rfl : j = 0 := by omega
     have HO := Lib.hid (show decS (u : Int) = out by rw [HD.out, <- Hj.out, mkL_zero])
     go_wp2_with fail
     go_ret
     exact ⟨by rw [HO.out]; rfl, bel⟩
def figB (c : UInt8) : Prop := 48 <= c.toNat /\ c.toNat <= 57
def valL (acc : Nat) (l : List UInt8) : Nat := l.foldl (fun a c => a * 10 + (c.toNat - 48)) acc
theorem valL_nil (acc : Nat) : valL acc [] = acc := by unfold valL; rw [List.foldl_nil]
theorem valL_cons (acc : Nat) (c : UInt8) (r : List UInt8) : valL acc (c :: r) = valL (acc * 10 + (c.toNat - 48)) r := by unfold valL; rw [List.foldl_cons]
theorem valL_ge (l : List UInt8) (acc : Nat) : acc <= valL acc l := by
 induction l generalizing acc with
 | nil => rw [valL_nil]; exact Nat.le_refl _
 | cons c r ih =>
  have := ih (acc * 10 + (c.toNat - 48))
  rw [valL_cons]
  omega
theorem valL_app (l m : List UInt8) (acc : Nat) : valL acc (l ++ m) = valL (valL acc l) m := by unfold valL; rw [List.foldl_append]
theorem parse_figs (l : List UInt8) (acc : Nat) (hd : ∀ c ∈ l, figB c) (h : acc < 18446744073709551616) : parseUint10 acc l = if valL acc l < 18446744073709551616 then .ok (valL acc l) else .range := by
 induction l generalizing acc with
 | nil => rw [valL_nil, if_pos h, parseUint10]
 | cons c r ih =>
  have hc := hd c (by simp)
  unfold figB at hc
  have hge := valL_ge r (acc * 10 + (c.toNat - 48))
  rw [valL_cons, parseUint10, if_pos hc]
  by_cases h1 : 1844674407370955162 <= acc
  ·rw [if_pos h1, if_neg (by omega)]
  ·rw [if_neg h1]
   by_cases h2 : 18446744073709551616 <= acc * 10 + (c.toNat - 48)
   ·rw [if_pos h2, if_neg (by omega)]
   ·rw [if_neg h2]
    exact ih _ (fun x hx => hd x (by simp [hx])) (by omega)
theorem ofNat_fig {d : Nat} (h : d < 10) : (UInt8.ofNat (48 + d)).toNat = 48 + d := by
 rw [UInt8.toNat_ofNat']
 omega
theorem dec_figs (u : Nat) : ∀ c ∈ decDigits u, figB c := by
 induction u using Nat.strongRecOn with
 | ind u ih =>
  intro c hc
  rw [decDigits] at hc
  by_cases h : u < 10
  ·rw [dif_pos h] at hc
   rw [List.mem_singleton] at hc
   subst hc
   unfold figB
   rw [ofNat_fig h]
   omega
  ·rw [dif_neg h] at hc
   rcases List.mem_append.1 hc with hc | hc
   ·exact ih (u / 10) (by omega) c hc
   ·rw [List.mem_singleton] at hc
    subst hc
    unfold figB
    rw [ofNat_fig (Nat.mod_lt _ (by decide))]
    omega
theorem dec_val (u : Nat) : valL 0 (decDigits u) = u := by
 induction u using Nat.strongRecOn with
 | ind u ih =>
  rw [decDigits]
  by_cases h : u < 10
  ·rw [dif_pos h]
   rw [valL_cons, valL_nil, ofNat_fig h]
   omega
  ·rw [dif_neg h, valL_app, ih (u / 10) (by omega)]
   rw [valL_cons, valL_nil, ofNat_fig (Nat.mod_lt _ (by decide))]
   omega
theorem val_pos {c : UInt8} {r : List UInt8} (h : figB c) (h0 : c.toNat ≠ 48) : 1 <= valL 0 (c :: r) := by
 have := valL_ge r (0 * 10 + (c.toNat - 48))
 unfold figB at h
 rw [valL_cons]
 omega
theorem dec_canon : ∀ (n : Nat) (l : List UInt8), l.length = n -> l ≠ [] -> (∀ c ∈ l, figB c) -> (∀ c r, l = c :: r -> r ≠ [] -> c.toNat ≠ 48) -> decDigits (valL 0 l) = l
 | 0, l, hn, h0, _, _ => absurd (List.eq_nil_of_length_eq_zero hn) h0
 | n + 1, l, hn, h0, hd, hz => by
  have hl := List.dropLast_concat_getLast h0
  obtain ⟨r, hr⟩ : ∃ r, r = l.dropLast := ⟨_, rfl⟩
  obtain ⟨c, hc⟩ : ∃ c, c = l.getLast h0 := ⟨_, rfl⟩
  rw [<- hr, <- hc] at hl
  subst hl
  clear hr hc
  have hcf := hd c (by simp)
  unfold figB at hcf
  rw [valL_app, valL_cons, valL_nil]
  have hback : UInt8.ofNat (48 + (c.toNat - 48)) = c := by
   apply UInt8.toNat_inj.1
   rw [ofNat_fig (by omega)]
   omega
  rcases r with _ | ⟨x, r⟩
  ·rw [valL_nil, decDigits, dif_pos (by omega)]
   simp only [List.nil_append]
   rw [show 0 * 10 + (c.toNat - 48) = c.toNat - 48 by omega, hback]
  ·have hx := hz x (r ++ [c]) rfl (by simp)
   have hp := val_pos (r := r) (hd x (by simp)) hx
   have ih := dec_canon n (x :: r) (by simp at hn ⊢; omega) (by simp) (fun y hy => hd y (by simp at hy ⊢; rcases hy with h | h; exact .inl h; exact .inr (.inl h))) (fun y q e hq => by
    simp only [List.cons.injEq] at e
    obtain ⟨rfl, rfl⟩ := e
    exact hx)
   obtain ⟨v, hv⟩ : ∃ v, v = valL 0 (x :: r) := ⟨_, rfl⟩
   rw [<- hv] at ih hp ⊢
   rw [decDigits, dif_neg (by omega), show (v * 10 + (c.toNat - 48)) / 10 = v by omega, show (v * 10 + (c.toNat - 48)) % 10 = c.toNat - 48 by omega, ih, hback]
def readI (s : ByteArray) : Option Nat := if valL 0 s.data.toList <= 9223372036854775807 /\ decDigits (valL 0 s.data.toList) = s.data.toList then some (valL 0 s.data.toList) else none
theorem decS_nat (u : Nat) : decS (u : Int) = ⟨(decDigits u).toArray⟩ := by
 unfold decS itoa
 rw [if_neg (by omega)]
 rfl
theorem decS_list (u : Nat) : (decS (u : Int)).data.toList = decDigits u := by rw [decS_nat]
theorem readI_some {s : ByteArray} {u : Nat} (h : readI s = some u) : u <= 9223372036854775807 /\ decS (u : Int) = s /\ s.data.toList = decDigits u := by
 unfold readI at h
 split at h
 ·rename_i hc
  injection h with h
  subst h
  exact ⟨hc.1, by rw [decS_nat, hc.2], hc.2.symm⟩
 ·cases h
theorem readI_of {s : ByteArray} {u : Nat} (hu : u <= 9223372036854775807) (h : decS (u : Int) = s) : readI s = some u := by
 subst h
 unfold readI
 rw [decS_list, dec_val, if_pos ⟨hu, rfl⟩]
theorem readI_figs {s : ByteArray} {u : Nat} (h : readI s = some u) : ∀ c ∈ s.data.toList, figB c := by
 rw [(readI_some h).2.2]
 exact dec_figs u
theorem readI_len {s : ByteArray} {u : Nat} (h : readI s = some u) : s.size <= 19 /\ 0 < s.size := by
 obtain ⟨h1, h2, h3⟩ := readI_some h
 have h4 := dec_len 18 u (by omega)
 have h5 : s.size = s.data.toList.length := by rw [Array.length_toList]; rfl
 rw [h5, h3]
 refine ⟨by omega, ?_⟩
 have := nDigits_pos u
 rw [decDigits_length]
 omega
def figI (x : Int) : Bool := decide (48 <= x) && decide (x <= 57)
def digF (s : ByteArray) : Nat -> Nat -> Nat
 | 0, j => j
 | k + 1, j => if j < s.size then (if figI (byteI s j) = true then digF s k (j + 1) else j) else j
theorem digF_fuel (s : ByteArray) : ∀ (k l j : Nat), s.size - j <= k -> s.size - j <= l -> digF s k j = digF s l j
 | 0, 0, _, _, _ => rfl
 | 0, l + 1, j, h, _ => by unfold digF; rw [if_neg (by omega)]
 | k + 1, 0, j, _, h => by unfold digF; rw [if_neg (by omega)]
 | k + 1, l + 1, j, h1, h2 => by
  unfold digF
  split
  ·split
   ·exact digF_fuel s k l _ (by omega) (by omega)
   ·rfl
  ·rfl
def digE (s : ByteArray) (j : Nat) : Nat := digF s (s.size - j) j
theorem digE_end {s : ByteArray} {j : Nat} (h : ¬ j < s.size) : digE s j = j := by
 unfold digE
 rw [show s.size - j = 0 by omega]
 rfl
theorem digE_at {s : ByteArray} {j : Nat} (h : j < s.size) : digE s j = if figI (byteI s j) = true then digE s (j + 1) else j := by
 unfold digE
 obtain ⟨k, hk⟩ : ∃ k, s.size - j = k + 1 := ⟨s.size - j - 1, by omega⟩
 rw [hk, digF, if_pos h]
 split
 ·exact digF_fuel s _ _ _ (by omega) (by omega)
 ·rfl
theorem digF_le (s : ByteArray) : ∀ (k j : Nat), j <= digF s k j /\ (j <= s.size -> digF s k j <= s.size)
 | 0, _ => ⟨Nat.le_refl _, fun h => h⟩
 | k + 1, j => by
  unfold digF
  split
  ·split
   ·have := digF_le s k (j + 1)
    omega
   ·omega
  ·omega
theorem digE_le (s : ByteArray) (j : Nat) : j <= digE s j /\ (j <= s.size -> digE s j <= s.size) := digF_le s _ _
theorem digF_figs (s : ByteArray) : ∀ (k j t : Nat), j <= t -> t < digF s k j -> figI (byteI s t) = true /\ t < s.size
 | 0, j, t, h1, h2 => by unfold digF at h2; omega
 | k + 1, j, t, h1, h2 => by
  unfold digF at h2
  split at h2
  ·split at h2
   ·rename_i hj hf
    rcases Nat.lt_or_ge j t with h | h
    ·exact digF_figs s k (j + 1) t (by omega) h2
    ·obtain rfl : t = j := by omega
     exact ⟨hf, hj⟩
   ·omega
  ·omega
theorem digE_figs {s : ByteArray} {j t : Nat} (h1 : j <= t) (h2 : t < digE s j) : figI (byteI s t) = true /\ t < s.size := digF_figs s _ j t h1 h2
def numB (s : ByteArray) (a e : Nat) : Nat := valL 0 (s.extract a e).data.toList
def wholeA (s : ByteArray) (neg : Bool) (a : Nat) : Int × Int :=
 if digE s a = a ∨ (byteI s a = 48 /\ a + 1 < digE s a) ∨ (digE s a < s.size /\ (byteI s (digE s a) = 46 ∨ byteI s (digE s a) = 101 ∨ byteI s (digE s a) = 69)) then (0, -1)
 else if neg = true then (if numB s a (digE s a) <= 9223372036854775808 then (-(numB s a (digE s a) : Int), (digE s a : Int)) else (0, -1))
 else (if numB s a (digE s a) <= 9223372036854775807 then ((numB s a (digE s a) : Int), (digE s a : Int)) else (0, -1))
def wholeB (s : ByteArray) (i : Nat) : Int × Int :=
 if i < s.size then (if byteI s i = 45 then wholeA s true (i + 1) else wholeA s false i) else (0, -1)
theorem extract_get (s : ByteArray) (a e k : Nat) (he : e <= s.size) (hk : a + k < e) : (s.extract a e).data.toList[k]? = some (s.get! (a + k)) := by
 have h1 : (s.extract a e).data.toList = (s.data.toList.drop a).take (e - a) := by
  rw [ByteArray.data_extract, Array.toList_extract, List.extract_eq_take_drop]
 rw [h1, List.getElem?_take, if_pos (by omega), List.getElem?_drop]
 have h2 : a + k < s.data.toList.length := by rw [Array.length_toList]; show a + k < s.size; omega
 rw [List.getElem?_eq_getElem h2]
 congr 1
 rw [Array.getElem_toList]
 have h3 : a + k < s.size := by omega
 show s.data[a + k] = s.data[a + k]!
 rw [getElem!_pos s.data (a + k) h3]
theorem extract_len (s : ByteArray) (a e : Nat) (he : e <= s.size) : (s.extract a e).data.toList.length = e - a := by
 rw [Array.length_toList]
 show (s.extract a e).size = e - a
 rw [ByteArray.size_extract]
 omega
theorem fig_of {s : ByteArray} {t : Nat} (h : figI (byteI s t) = true) : figB (s.get! t) := by
 unfold figI byteI at h
 simp at h
 unfold figB
 omega
theorem figs_all {s : ByteArray} {a e : Nat} (he : e <= s.size) (h : ∀ t, a <= t -> t < e -> figI (byteI s t) = true) : ∀ c ∈ (s.extract a e).data.toList, figB c := by
 intro c hc
 obtain ⟨k, hk⟩ := List.mem_iff_getElem?.1 hc
 have hl : k < e - a := by
  have := (List.getElem?_eq_some_iff.1 hk).1
  rwa [extract_len s a e he] at this
 rw [extract_get s a e k he (by omega)] at hk
 injection hk with hk
 subst hk
 exact fig_of (h _ (by omega) (by omega))
theorem atoi_figs {l : List UInt8} (h0 : l ≠ []) (hf : ∀ c ∈ l, figB c) : atoiAll l = if valL 0 l <= 9223372036854775807 then .ok (valL 0 l : Int) else .range := by
 rcases l with _ | ⟨c, r⟩
 ·exact absurd rfl h0
 ·have hc := hf c (by simp)
  unfold figB at hc
  rw [atoiAll_plain c r (by omega) (by omega)]
  unfold parseMag
  rw [if_neg (by simp), parse_figs _ 0 hf (by omega)]
  obtain ⟨u, hu⟩ : ∃ u, u = valL 0 (c :: r) := ⟨_, rfl⟩
  rw [<- hu]
  by_cases h1 : u < 18446744073709551616
  ·rw [if_pos h1]
   show (if 9223372036854775808 <= u then NumEnd.range else NumEnd.ok (u : Int)) = _
   by_cases h2 : u <= 9223372036854775807
   ·rw [if_neg (by omega), if_pos h2]
   ·rw [if_pos (by omega), if_neg h2]
  ·rw [if_neg h1, if_neg (by omega)]
   rfl
theorem atoi_minus {l : List UInt8} (h0 : l ≠ []) (hf : ∀ c ∈ l, figB c) : atoiAll (45 :: l) = if valL 0 l <= 9223372036854775808 then .ok (-(valL 0 l : Int)) else .range := by
 rw [atoiAll_minus]
 unfold parseMag
 rw [if_neg h0, parse_figs _ 0 hf (by omega)]
 obtain ⟨u, hu⟩ : ∃ u, u = valL 0 l := ⟨_, rfl⟩
 rw [<- hu]
 by_cases h1 : u < 18446744073709551616
 ·rw [if_pos h1]
  show (if 9223372036854775808 < u then NumEnd.range else NumEnd.ok (-(u : Int))) = _
  by_cases h2 : u <= 9223372036854775808
  ·rw [if_neg (by omega), if_pos h2]
  ·rw [if_pos (by omega), if_neg h2]
 ·rw [if_neg h1, if_neg (by omega)]
  rfl
theorem readI_figures {s : ByteArray} {a e : Nat} (hae : a < e) (he : e <= s.size) (h : ∀ t, a <= t -> t < e -> figI (byteI s t) = true) (hz : ¬ (byteI s a = 48 /\ a + 1 < e)) :
  decS (numB s a e : Int) = s.extract a e := by
 have hl := extract_len s a e he
 have hg := extract_get s a e 0 he (by omega)
 have hc := dec_canon (e - a) (s.extract a e).data.toList hl (by intro hn; rw [hn] at hl; simp at hl; omega) (figs_all he h) (fun c r hcr hr => by
  rw [hcr] at hg hl
  simp at hg
  intro hcc
  refine hz ⟨by unfold byteI; rw [<- hg, hcc]; rfl, ?_⟩
  rcases r with _ | ⟨x, r⟩
  ·exact absurd rfl hr
  ·simp at hl; omega)
 rw [decS_nat]
 unfold numB
 rw [hc]
theorem readI_part {s : ByteArray} {a e : Nat} (hae : a < e) (he : e <= s.size) (h : ∀ t, a <= t -> t < e -> figI (byteI s t) = true) (hz : ¬ (byteI s a = 48 /\ a + 1 < e)) :
  readI (s.extract a e) = if numB s a e <= 9223372036854775807 then some (numB s a e) else none := by
 have hd := readI_figures hae he h hz
 by_cases hv : numB s a e <= 9223372036854775807
 ·rw [if_pos hv]
  exact readI_of hv hd
 ·rw [if_neg hv]
  unfold readI
  exact if_neg (fun hc => hv hc.1)
theorem wholeB_at {s : ByteArray} {i a : Nat} (h : i < s.size) (ha : a = if byteI s i = 45 then i + 1 else i) : wholeB s i = wholeA s (decide (byteI s i = 45)) a := by
 unfold wholeB
 rw [if_pos h]
 by_cases h45 : byteI s i = 45
 ·rw [if_pos h45] at ha ⊢
  rw [decide_eq_true h45, ha]
 ·rw [if_neg h45] at ha ⊢
  rw [decide_eq_false h45, ha]
theorem wholeA_no {s : ByteArray} {neg : Bool} {a : Nat} (h : digE s a = a ∨ (byteI s a = 48 /\ a + 1 < digE s a) ∨ (digE s a < s.size /\ (byteI s (digE s a) = 46 ∨ byteI s (digE s a) = 101 ∨ byteI s (digE s a) = 69))) : wholeA s neg a = (0, -1) := if_pos h
theorem extract_cons {s : ByteArray} {i e : Nat} (hi : i < e) (he : e <= s.size) : (s.extract i e).data.toList = s.get! i :: (s.extract (i + 1) e).data.toList := by
 apply List.ext_getElem?
 intro k
 rcases k with _ | k
 ·rw [extract_get s i e 0 he (by omega)]; rfl
 ·rw [List.getElem?_cons_succ]
  by_cases hk : i + 1 + k < e
  ·rw [extract_get s i e (k + 1) he (by omega), extract_get s (i + 1) e k he hk]
   congr 2
   omega
  ·rw [List.getElem?_eq_none (by rw [extract_len s i e he]; omega), List.getElem?_eq_none (by rw [extract_len s (i + 1) e he]; omega)]
theorem whole_atoi {s : ByteArray} {i a : Nat} (hi : i < s.size) (ha : a = if byteI s i = 45 then i + 1 else i) (h : ¬ (digE s a = a ∨ (byteI s a = 48 /\ a + 1 < digE s a) ∨ (digE s a < s.size /\ (byteI s (digE s a) = 46 ∨ byteI s (digE s a) = 101 ∨ byteI s (digE s a) = 69)))) :
  (∃ v, atoiAll (s.extract i (digE s a)).data.toList = .ok v /\ wholeB s i = (v, (digE s a : Int))) ∨ (atoiAll (s.extract i (digE s a)).data.toList = .range /\ wholeB s i = (0, -1)) := by
 have hae := digE_le s a
 have has : a <= s.size := by rw [ha]; split <;> omega
 have hes := hae.2 has
 have hne : a < digE s a := by have := hae.1; have := not_or.1 h; omega
 have hf := figs_all (s := s) (a := a) (e := digE s a) hes (fun t h1 h2 => (digE_figs h1 h2).1)
 have hl := extract_len s a (digE s a) hes
 have h0 : (s.extract a (digE s a)).data.toList ≠ [] := by intro hn; rw [hn] at hl; simp at hl; omega
 rw [wholeB_at hi ha]
 unfold wholeA
 rw [if_neg h]
 by_cases h45 : byteI s i = 45
 ·rw [if_pos h45] at ha
  rw [decide_eq_true h45, if_pos rfl]
  have hc := extract_cons (s := s) (i := i) (e := digE s a) (by omega) hes
  have hb : s.get! i = 45 := by
   apply UInt8.toNat_inj.1
   have h9 : (45 : UInt8).toNat = 45 := rfl
   unfold byteI at h45
   rw [h9]
   omega
  rw [hc, hb, <- ha, atoi_minus h0 hf]
  unfold numB
  by_cases hv : valL 0 (s.extract a (digE s a)).data.toList <= 9223372036854775808
  ·rw [if_pos hv, if_pos hv]; exact .inl ⟨_, rfl, rfl⟩
  ·rw [if_neg hv, if_neg hv]; exact .inr ⟨rfl, rfl⟩
 ·rw [if_neg h45] at ha
  rw [decide_eq_false h45, if_neg (by decide)]
  rw [ha] at hf h0 ⊢
  rw [atoi_figs h0 hf]
  unfold numB
  by_cases hv : valL 0 (s.extract i (digE s i)).data.toList <= 9223372036854775807
  ·rw [if_pos hv, if_pos hv]; exact .inl ⟨_, rfl, rfl⟩
  ·rw [if_neg hv, if_neg hv]; exact .inr ⟨rfl, rfl⟩
theorem lit_min : decS (9223372036854775808 : Nat) = ⟨#[57, 50, 50, 51, 51, 55, 50, 48, 51, 54, 56, 53, 52, 55, 55, 53, 56, 48, 56]⟩ := by
 rw [decS_nat]
 have h := dec_canon 19 [57, 50, 50, 51, 51, 55, 50, 48, 51, 54, 56, 53, 52, 55, 55, 53, 56, 48, 56] rfl (by simp) (by unfold figB; decide) (by intro c r h _; simp at h; rw [<- h.1]; decide)
 rw [show valL 0 [57, 50, 50, 51, 51, 55, 50, 48, 51, 54, 56, 53, 52, 55, 55, 53, 56, 48, 56] = 9223372036854775808 from by unfold valL; rfl] at h
 rw [h]
theorem is_min {s : ByteArray} {a e : Nat} (hae : a < e) (he : e <= s.size) (h : ∀ t, a <= t -> t < e -> figI (byteI s t) = true) (hz : ¬ (byteI s a = 48 /\ a + 1 < e)) : s.extract a e = ⟨#[57, 50, 50, 51, 51, 55, 50, 48, 51, 54, 56, 53, 52, 55, 55, 53, 56, 48, 56]⟩ ↔ numB s a e = 9223372036854775808 := by
 have hd := readI_figures hae he h hz
 constructor
 ·intro hx
  rw [hx, <- lit_min] at hd
  have h1 := congrArg (fun z : ByteArray => valL 0 z.data.toList) hd
  simp only [decS_list, dec_val] at h1
  exact h1
 ·intro hn
  rw [<- hd, hn]
  exact lit_min
theorem toList_empty {s : ByteArray} (h : s.size = 0) : s.toList.isEmpty = true := by
 rw [Lib.toList_data, List.isEmpty_iff]
 exact List.eq_nil_of_length_eq_zero (by rw [Array.length_toList]; exact h)
theorem toList_some {s : ByteArray} (h : 0 < s.size) : s.toList.isEmpty = false := by
 rw [Lib.toList_data]
 rcases h1 : s.data.toList with _ | ⟨x, l⟩
 ·have h2 : s.data.toList.length = 0 := by rw [h1]; rfl
  rw [Array.length_toList] at h2
  have h3 : s.size = s.data.size := rfl
  omega
 ·rfl
def figU (x : Nat) : UInt8 := if x < 10 then UInt8.ofNat (48 + x) else UInt8.ofNat (87 + x)
def qN (n : Nat) : List UInt8 :=
 if n = 34 ∨ n = 92 then [92, UInt8.ofNat n] else if n = 8 then [92, 98] else if n = 12 then [92, 102] else if n = 10 then [92, 110] else if n = 13 then [92, 114] else if n = 9 then [92, 116]
 else if n < 32 then [92, 117, 48, 48, figU (n / 16), figU (n % 16)] else [UInt8.ofNat n]
def qB (c : UInt8) : List UInt8 := qN c.toNat
def qR (r : Nat) : List UInt8 := if r < 128 then qN r else (textB r).data.toList
def quoteB (s : ByteArray) : ByteArray := if utf8B s then ⟨(34 :: s.data.toList.flatMap qB ++ [34]).toArray⟩ else ⟨#[]⟩
theorem qB_high {c : UInt8} (h : 128 <= c.toNat) : qB c = [c] := by
 unfold qB qN
 rw [if_neg (by omega), if_neg (by omega), if_neg (by omega), if_neg (by omega), if_neg (by omega), if_neg (by omega), if_neg (by omega)]
 simp
theorem qN_len (n : Nat) : (qN n).length <= 6 := by
 unfold qN
 by_cases h0 : n = 34 ∨ n = 92
 ·rw [if_pos h0]; simp
 rw [if_neg h0]
 by_cases h1 : n = 8
 ·rw [if_pos h1]; simp
 rw [if_neg h1]
 by_cases h2 : n = 12
 ·rw [if_pos h2]; simp
 rw [if_neg h2]
 by_cases h3 : n = 10
 ·rw [if_pos h3]; simp
 rw [if_neg h3]
 by_cases h4 : n = 13
 ·rw [if_pos h4]; simp
 rw [if_neg h4]
 by_cases h5 : n = 9
 ·rw [if_pos h5]; simp
 rw [if_neg h5]
 by_cases h6 : n < 32
 ·rw [if_pos h6]; simp
 rw [if_neg h6]
 simp
theorem text_len (r : Nat) : (textB r).data.toList.length <= 4 := by
 have h := congrArg List.length (textB_list r)
 rw [List.length_map] at h
 rw [h]
 unfold encN4
 repeat' split
 all_goals simp
theorem qR_len (r : Nat) : (qR r).length <= 6 := by
 unfold qR
 split
 ·exact qN_len r
 ·have := text_len r
  omega
theorem bytes_inj : ∀ {a b : List UInt8}, a.map UInt8.toNat = b.map UInt8.toNat -> a = b
 | [], [], _ => rfl
 | [], _ :: _, h => by cases h
 | _ :: _, [], h => by cases h
 | x :: a, y :: b, h => by
  simp only [List.map_cons, List.cons.injEq] at h
  rw [UInt8.toNat_inj.1 h.1, bytes_inj h.2]
theorem text_eq {r : Nat} {l : List UInt8} (h : encN4 r = l.map UInt8.toNat) : (textB r).data.toList = l := bytes_inj (by rw [textB_list, h])
theorem decode_way (l : List UInt8) (hne : l ≠ []) (hv : decodeL l ≠ (65533, 1)) :
  (∃ b : UInt8, (decodeL l).1 = b.toNat /\ b.toNat < 128 /\ l.take (decodeL l).2 = [b]) ∨ (128 <= (decodeL l).1 /\ (textB (decodeL l).1).data.toList = l.take (decodeL l).2 /\ ∀ x ∈ l.take (decodeL l).2, 128 <= x.toNat) := by
 have hl : 0 < l.length := List.length_pos_iff.2 hne
 rw [decodeL_N] at hv ⊢
 have k0 := (l.getD 0 0).toNat_lt
 have k1 := (l.getD 1 0).toNat_lt
 have k2 := (l.getD 2 0).toNat_lt
 have k3 := (l.getD 3 0).toNat_lt
 rcases decodeN_shape l.length (l.getD 0 0).toNat (l.getD 1 0).toNat (l.getD 2 0).toNat (l.getD 3 0).toNat with ⟨c, e⟩ | ⟨c1, c2, c3, cv, e⟩ | ⟨c1, c2, c3, c4, cv, cs, e⟩ | ⟨c1, c2, c3, c4, c5, cv, cs, e⟩ | e
 ·rw [e]
  exact .inl ⟨l.getD 0 0, rfl, c, takeA l hl⟩
 ·rw [e]
  refine .inr ⟨cv, ?_, ?_⟩
  ·show (textB ((l.getD 0 0).toNat % 32 * 64 + (l.getD 1 0).toNat % 64 : Nat)).data.toList = l.take 2
   refine text_eq ?_
   rw [takeB l c2]
   unfold encN4
   rw [if_neg (by omega), if_neg (by omega), if_pos (by omega)]
   simp only [List.map_cons, List.map_nil, List.cons.injEq, and_true]
   omega
  ·intro x hx
   rw [show l.take (((l.getD 0 0).toNat % 32 * 64 + (l.getD 1 0).toNat % 64, 2) : Nat × Nat).2 = l.take 2 from rfl, takeB l c2] at hx
   simp only [List.mem_cons, List.mem_nil_iff, or_false] at hx
   rcases hx with rfl | rfl <;> omega
 ·rw [e]
  refine .inr ⟨by show 128 <= (l.getD 0 0).toNat % 16 * 4096 + (l.getD 1 0).toNat % 64 * 64 + (l.getD 2 0).toNat % 64; omega, ?_, ?_⟩
  ·show (textB ((l.getD 0 0).toNat % 16 * 4096 + (l.getD 1 0).toNat % 64 * 64 + (l.getD 2 0).toNat % 64 : Nat)).data.toList = l.take 3
   refine text_eq ?_
   rw [takeC l c2]
   unfold encN4
   rw [if_neg (by omega), if_neg (by omega), if_neg (by omega), if_pos (by omega)]
   simp only [List.map_cons, List.map_nil, List.cons.injEq, and_true]
   omega
  ·intro x hx
   rw [show l.take (((l.getD 0 0).toNat % 16 * 4096 + (l.getD 1 0).toNat % 64 * 64 + (l.getD 2 0).toNat % 64, 3) : Nat × Nat).2 = l.take 3 from rfl, takeC l c2] at hx
   simp only [List.mem_cons, List.mem_nil_iff, or_false] at hx
   rcases hx with rfl | rfl | rfl <;> omega
 ·rw [e]
  refine .inr ⟨by show 128 <= (l.getD 0 0).toNat % 8 * 262144 + (l.getD 1 0).toNat % 64 * 4096 + (l.getD 2 0).toNat % 64 * 64 + (l.getD 3 0).toNat % 64; omega, ?_, ?_⟩
  ·show (textB ((l.getD 0 0).toNat % 8 * 262144 + (l.getD 1 0).toNat % 64 * 4096 + (l.getD 2 0).toNat % 64 * 64 + (l.getD 3 0).toNat % 64 : Nat)).data.toList = l.take 4
   refine text_eq ?_
   rw [takeD l c2]
   unfold encN4
   rw [if_neg (by omega), if_neg (by omega), if_neg (by omega), if_neg (by omega)]
   simp only [List.map_cons, List.map_nil, List.cons.injEq, and_true]
   omega
  ·intro x hx
   rw [show l.take (((l.getD 0 0).toNat % 8 * 262144 + (l.getD 1 0).toNat % 64 * 4096 + (l.getD 2 0).toNat % 64 * 64 + (l.getD 3 0).toNat % 64, 4) : Nat × Nat).2 = l.take 4 from rfl, takeD l c2] at hx
   simp only [List.mem_cons, List.mem_nil_iff, or_false] at hx
   rcases hx with rfl | rfl | rfl | rfl <;> omega
 ·exact absurd e hv
theorem flat_high : ∀ {l : List UInt8}, (∀ x ∈ l, 128 <= x.toNat) -> l.flatMap qB = l
 | [], _ => rfl
 | x :: l, h => by
  rw [List.flatMap_cons, qB_high (h x (by simp)), flat_high (fun y hy => h y (by simp [hy]))]
  rfl
theorem quote_runes (s : ByteArray) : ∀ (f i : Nat) (rs : List Nat), s.size - i <= f -> runesAt s i = some rs -> (s.data.toList.drop i).flatMap qB = rs.flatMap qR
 | f, i, rs, hf, h => by
  by_cases hi : i < s.size
  ·by_cases hd : Utf8.decode s i = (65533, 1)
   ·rw [runesAt_bad hi hd] at h; cases h
   ·rw [runesAt_step hi hd] at h
    have hdl := decodeL_drop s i hi
    have hl : s.data.toList.length = s.size := Array.length_toList
    have hne : s.data.toList.drop i ≠ [] := fun e => by
     have := congrArg List.length e
     rw [List.length_drop, hl] at this
     simp at this
     omega
    have hk : 1 <= (Utf8.decode s i).2 := by have := decode_fits s i hi; omega
    rcases hr : runesAt s (i + (Utf8.decode s i).2) with _ | rs'
    ·rw [hr] at h; cases h
    ·rw [hr] at h
     obtain rfl := Option.some.inj h
     cases f with
     | zero => omega
     | succ f =>
      have ih := quote_runes s f (i + (Utf8.decode s i).2) rs' (by omega) hr
      have hs : s.data.toList.drop i = (s.data.toList.drop i).take (Utf8.decode s i).2 ++ s.data.toList.drop (i + (Utf8.decode s i).2) := by
       rw [<- List.drop_drop, List.take_append_drop]
      rw [hs, List.flatMap_append, List.flatMap_cons, ih]
      congr 1
      rw [<- hdl]
      rcases decode_way _ hne (by rw [hdl]; exact hd) with ⟨b, h1, h2, h3⟩ | ⟨h1, h2, h3⟩
      ·rw [h3, h1]
       unfold qR
       rw [if_pos h2]
       simp [qB]
      ·unfold qR
       rw [if_neg (by omega), flat_high h3, h2]
  ·rw [runesAt_end hi] at h
   obtain rfl := Option.some.inj h
   rw [List.drop_of_length_le (by rw [Array.length_toList]; exact Nat.le_of_not_lt hi)]
   rfl
theorem quoteB_runes {s : ByteArray} {rs : List Nat} (h : runesAt s 0 = some rs) : quoteB s = ⟨(34 :: rs.flatMap qR ++ [34]).toArray⟩ := by
 have h1 := quote_runes s _ 0 rs (Nat.le_refl _) h
 rw [List.drop_zero] at h1
 unfold quoteB utf8B
 rw [h, h1]
 rfl
theorem quoteB_none {s : ByteArray} (h : runesAt s 0 = none) : quoteB s = ⟨#[]⟩ := by unfold quoteB utf8B; rw [h]; rfl
theorem own_on {w wr w' : World} {e : TypeId} {sz n : Nat} {v : Value} {xs : List Value} (h : wr.ownsRow w.heap.size e sz v n xs) (_ : Below w.heap.size w w') (hb : Below wr.heap.size wr w') : w'.ownsRow w.heap.size e sz v n xs :=
 ownsRow_carry h (fun q hq => hb.block q (World.ownsRow.lt h q hq).2)
theorem c_spec_ReadQuoted (s : ByteArray) (i : Nat) (w : World) (hs : s.size <= 1048576) (hi : i <= 1048576) :
  Calls Tryz.prog 190 #[.string s, .int .i64 i] w fun e w' => e = .returned (.tuple #[.string (quotB s i).1, .int .i64 (quotB s i).2]) /\ Below w.heap.size w w' := by
 by_cases hlt : (i : Int) < s.size
 ·have hii : i < s.size := by omega
  have h0 : inB (i : Int) 0 ((s.size : Int) - 1) = true := decide_eq_true (by omega)
  have hz0 : (0 : Int) <= i := by omega
  obtain ⟨b, hb⟩ : ∃ b : Nat, b = (s.get! i).toNat := ⟨_, rfl⟩
  have hx : (s[i]'hii).toNat = b := by rw [hb]; exact get_at s i hii
  have hby : byteI s i = b := by unfold byteI; rw [hb]
  clear hb
  by_cases e34 : (b : Int) = 34
  ·have HQ := hid (show quotB s i = quotG s (i + 1) [] by unfold quotB; rw [if_pos hii, hby, if_pos e34])
   obtain rfl : b = 34 := by omega
   clear e34
   obtain ⟨i0, hi, hz0, hz1, hz2⟩ := info_parts (show (Tryz.prog.info? 5).map (fun i => (i.zero, i.size, i.bytes)) = some (some (.int .u8 0), 1, 1) from by kernel_rfl)
   go_enter Tryz.func190, Tryz.ntmps190
   go_wp2_with (first | (go_at_call 115; refine (c_spec_l01In _ _ _ _).mono ?_; rintro e w' ⟨rfl, rfl⟩))
   go_loopw [1, 6] (fun s1 s6 wr => ∃ (j : Nat) (M : List UInt8) (A : Option Addr) (c n : Nat), j <= s.size /\ s1 = .int .i64 j /\ n = M.length /\ s6 = .slice A n c /\ wr.ownsRow w.heap.size 5 1 (.slice A n c) n (Lib.strCells ⟨M.toArray⟩) /\ n <= 4 * j /\ quotB s i = quotG s j M /\ Below w.heap.size w wr) (fun s1 _ _ => s.size - (Lib.intOf s1).toNat)
   case atStart => exact ⟨i + 1, [], some ⟨w.heap.size, 0, none⟩, 0, 0, by omega, by go_num, rfl, rfl, own_empty rfl (Nat.le_refl _), by omega, HQ.out, bel⟩
   case round =>
    obtain ⟨j, M, A, c, n, hjl, rfl, hn, rfl, hown, hnj, hq, hbr⟩ := hrel
    have HO := hid hown
    have HG := hid hq
    have HBr := hid hbr
    have HNn := hid hn
    clear hown hq hbr hn hx hby
    by_cases hlt2 : (j : Int) < s.size
    ·have hjj : j < s.size := by omega
     have hj0 : (0 : Int) <= j := by omega
     obtain ⟨b, hb⟩ : ∃ b : Nat, b = (s.get! j).toNat := ⟨_, rfl⟩
     have hx : (s[j]'hjj).toNat = b := by rw [hb]; exact get_at s j hjj
     have hby : byteI s j = b := by unfold byteI; rw [hb]
     have HS := hid (HG.out.trans (quotG_at hjj))
     rw [hby] at HS
     have HY := hid hby
     clear hb hby
     by_cases e34 : (b : Int) = 34
     ·have Hf := hid (show quotB s i = (⟨M.toArray⟩, (j : Int) + 1) by rw [HS.out, if_pos e34])
      obtain rfl : b = 34 := by omega
      clear e34
      have hcv := own_string HNn.out HO.out
      go_wp2_with fail
      go_ret2
      exact ⟨by rw [Hf.out]; rfl, HBr.out⟩
     ·have f34 : ((b : Int) == 34) = false := beq_eq_false_iff_ne.2 e34
      have HT := hid (show quotB s i = if (quotN s j).2 < 0 then (⟨#[]⟩, -1) else quotG s (quotN s j).2.toNat (M ++ (textB (quotN s j).1).data.toList) by rw [HS.out, if_neg e34])
      by_cases e92 : (b : Int) = 92
      ·obtain rfl : b = 92 := by omega
       clear e92 e34 f34
       obtain ⟨p1, hp1⟩ : ∃ p, p = j + 1 := ⟨_, rfl⟩
       have q1 : (j : Int) + 1 = p1 := by omega
       obtain ⟨x, hxx⟩ : ∃ x, x = (escB s p1).1 := ⟨_, rfl⟩
       obtain ⟨y, hyy⟩ : ∃ y, y = (escB s p1).2 := ⟨_, rfl⟩
       have hN : quotN s j = (x, y) := by unfold quotN; rw [HY.out, if_pos (show ((92 : Nat) : Int) = 92 from rfl), <- hp1, hxx, hyy]
       rw [hN] at HT
       obtain ⟨hn1, hn2, hn3⟩ := escB_next s p1
       rw [<- hxx] at hn2 hn3
       rw [<- hyy] at hn1
       have HXY := hid (And.intro hxx hyy)
       have HN1 := hid hn1
       clear hxx hyy hN hn1 hp1
       by_cases y0 : y < 0
       ·have Hf := hid (show quotB s i = (⟨#[]⟩, -1) by rw [HT.out]; exact if_pos y0)
        go_wp2_with fail
        refine (c_l09Escape s p1 _ hs (by omega)).mono ?_
        rintro e w9 ⟨rfl, rfl⟩
        rw [<- HXY.out.1, <- HXY.out.2]
        go_wp2_with fail
        go_ret2
        exact ⟨by rw [Hf.out]; rfl, HBr.out⟩
       ·obtain ⟨q, rfl⟩ : ∃ q : Nat, y = q := ⟨y.toNat, by omega⟩
        have hjq : j < q := by have := HN1.out; omega
        have hqs : q <= s.size := by have := HN1.out; omega
        have HE := hid (show quotB s i = quotG s q (M ++ (textB x).data.toList) by rw [HT.out]; exact if_neg y0)
        have d0 : decide ((q : Int) < 0) = false := decide_eq_false y0
        clear y0
        go_wp2_with fail
        refine (c_l09Escape s p1 _ hs (by omega)).mono ?_
        rintro e w9 ⟨rfl, rfl⟩
        rw [<- HXY.out.1, <- HXY.out.2]
        go_wp2_with fail
        refine (c_spec_RuneText x _ (by omega)).mono ?_
        rintro e w2 ⟨rfl, hb2⟩
        have B2 : Below w.heap.size w w2 := HBr.out.trans (hb2.mono (HBr.out).size)
        have hR2 := own_on HO.out B2 hb2
        have htz := textB_size x
        have hM4 : n + (textB x).size <= 4 * q := by omega
        have HB2 := hid B2
        have hsz2 := B2.size
        clear hb2 B2
        go_wp2_with (at_builtin; refine wpList_append_own_string _ rfl (.tmp 57) (.tmp 59) 28 9 rfl w.heap.size 5 i0 Tryz.underlying28 Tryz.underlying9 hi hz0 hz1 hz2 _ n _ rfl hR2 (textB x) rfl (by simp only [maxLen]; omega) (by omega) hsz2 ?_; intro v5 w5 hR5 hg5 _; obtain ⟨A5, c5, rfl⟩ := own_form hR5; rw [strCells_list] at hR5)
        have HB5 := Below.grown HB2.out hg5 hsz2 (fun k hk => (World.ownsRow.lt hR2 k hk).1)
        go_roundw
        case rel => exact ⟨q, M ++ (textB x).data.toList, A5, c5, n + (textB x).size, by omega, rfl, by rw [List.length_append, HNn.out, Array.length_toList]; rfl, rfl, hR5, hM4, HE.out, HB5⟩
        case measure => simp [Lib.intOf]; omega
      ·have f92 : ((b : Int) == 92) = false := beq_eq_false_iff_ne.2 e92
       obtain ⟨x, hxx⟩ : ∃ x, x = (runeB s j).1 := ⟨_, rfl⟩
       obtain ⟨y, hyy⟩ : ∃ y, y = (runeB s j).2 := ⟨_, rfl⟩
       have hN : quotN s j = if x < 32 then (0, -1) else (x, y) := by unfold quotN; rw [HY.out, if_neg e92, hxx, hyy]
       rw [hN] at HT
       obtain ⟨hn1, hn2, hn3⟩ := runeB_next s j
       rw [<- hxx] at hn2 hn3
       rw [<- hyy] at hn1
       have HXY := hid (And.intro hxx hyy)
       have HN1 := hid hn1
       clear hxx hyy hN hn1 e92 e34
       by_cases x32 : x < 32
       ·rw [if_pos x32] at HT
        have Hf := hid (show quotB s i = (⟨#[]⟩, -1) by rw [HT.out]; rfl)
        go_wp2_with fail
        refine (c_spec_RuneAt s j _ (by omega) (by omega)).mono ?_
        rintro e w1 ⟨rfl, hb⟩
        have HB1 := hid (HBr.out.trans (hb.mono HBr.out.size))
        rw [<- HXY.out.1, <- HXY.out.2]
        go_wp2_with fail
        go_ret2
        exact ⟨by rw [Hf.out]; rfl, HB1.out⟩
       ·rw [if_neg x32] at HT
        have d32 : decide (x < 32) = false := decide_eq_false x32
        clear x32
        by_cases y0 : y < 0
        ·have Hf := hid (show quotB s i = (⟨#[]⟩, -1) by rw [HT.out]; exact if_pos y0)
         go_wp2_with fail
         refine (c_spec_RuneAt s j _ (by omega) (by omega)).mono ?_
         rintro e w1 ⟨rfl, hb⟩
         have HB1 := hid (HBr.out.trans (hb.mono HBr.out.size))
         rw [<- HXY.out.1, <- HXY.out.2]
         go_wp2_with fail
         go_ret2
         exact ⟨by rw [Hf.out]; rfl, HB1.out⟩
        ·obtain ⟨q, rfl⟩ : ∃ q : Nat, y = q := ⟨y.toNat, by omega⟩
         have hjq : j < q := by have := HN1.out; omega
         have hqs : q <= s.size := by have := HN1.out; omega
         have HE := hid (show quotB s i = quotG s q (M ++ (textB x).data.toList) by rw [HT.out]; exact if_neg y0)
         have d0 : decide ((q : Int) < 0) = false := decide_eq_false y0
         clear y0
         go_wp2_with fail
         refine (c_spec_RuneAt s j _ (by omega) (by omega)).mono ?_
         rintro e w1 ⟨rfl, hb⟩
         have HB1 := hid (HBr.out.trans (hb.mono HBr.out.size))
         rw [<- HXY.out.1, <- HXY.out.2]
         go_wp2_with fail
         refine (c_spec_RuneText x _ (by omega)).mono ?_
         rintro e w2 ⟨rfl, hb2⟩
         have B2 : Below w.heap.size w w2 := HB1.out.trans (hb2.mono HB1.out.size)
         have hR2 := own_on HO.out B2 (hb.trans (hb2.mono hb.size))
         have htz := textB_size x
         have hM4 : n + (textB x).size <= 4 * q := by omega
         have HB2 := hid B2
         have hsz2 := B2.size
         clear hb2 B2
         go_wp2_with (at_builtin; refine wpList_append_own_string _ rfl (.tmp 57) (.tmp 59) 28 9 rfl w.heap.size 5 i0 Tryz.underlying28 Tryz.underlying9 hi hz0 hz1 hz2 _ n _ rfl hR2 (textB x) rfl (by simp only [maxLen]; omega) (by omega) hsz2 ?_; intro v5 w5 hR5 hg5 _; obtain ⟨A5, c5, rfl⟩ := own_form hR5; rw [strCells_list] at hR5)
         have HB5 := Below.grown HB2.out hg5 hsz2 (fun k hk => (World.ownsRow.lt hR2 k hk).1)
         go_roundw
         case rel => exact ⟨q, M ++ (textB x).data.toList, A5, c5, n + (textB x).size, by omega, rfl, by rw [List.length_append, HNn.out, Array.length_toList]; rfl, rfl, hR5, hM4, HE.out, HB5⟩
         case measure => simp [Lib.intOf]; omega
    ·have Hf := hid (show quotB s i = (⟨#[]⟩, -1) by rw [HG.out]; exact quotG_end (by omega))
     go_wp2_with fail
     go_ret2
     exact ⟨by rw [Hf.out]; rfl, HBr.out⟩
  ·have HQ := hid (show quotB s i = (⟨#[]⟩, -1) by unfold quotB; rw [if_pos hii, hby, if_neg e34])
   have f34 : ((b : Int) == 34) = false := beq_eq_false_iff_ne.2 e34
   have n34 : ((b : Int) != 34) = true := bne_iff_ne.2 e34
   clear e34
   go_enter Tryz.func190, Tryz.ntmps190
   go_wp2_with (first | (go_at_call 115; refine (c_spec_l01In _ _ _ _).mono ?_; rintro e w' ⟨rfl, rfl⟩))
   go_ret2
   exact ⟨by rw [HQ.out]; rfl, Below.refl _ _⟩
 ·have HQ := hid (show quotB s i = (⟨#[]⟩, -1) by unfold quotB; rw [if_neg (by omega)])
  have h0 : inB (i : Int) 0 ((s.size : Int) - 1) = false := decide_eq_false (by omega)
  go_enter Tryz.func190, Tryz.ntmps190
  go_wp2_with (first | (go_at_call 115; refine (c_spec_l01In _ _ _ _).mono ?_; rintro e w' ⟨rfl, rfl⟩))
  go_ret2
  exact ⟨by rw [HQ.out]; rfl, Below.refl _ _⟩
theorem c_impl_ReadQuoted (s : ByteArray) (i : Nat) (w : World) (hs : s.size <= 1048576) (hi : i <= 1048576) (hV : CTab w) (hT : Tabs w) :
  Calls Tryz.prog 180 #[.string s, .int .i64 i] w fun e w' => e = .returned (.tuple #[.string (quotB s i).1, .int .i64 (quotB s i).2]) /\ Below w.heap.size w w' := by
 have HVT := hid (And.intro hV hT)
 clear hV hT
 by_cases hlt : (i : Int) < s.size
 ·have hii : i < s.size := by omega
  have h1 : decide ((s.size : Int) <= i) = false := decide_eq_false (by omega)
  have h2 : decide (s.size <= i) = false := decide_eq_false (by omega)
  have h3 : decide ((i : Int) < 0) = false := decide_eq_false (by omega)
  have hz0 : (0 : Int) <= i := by omega
  obtain ⟨b, hb⟩ : ∃ b : Nat, b = (s.get! i).toNat := ⟨_, rfl⟩
  have hx : (s[i]'hii).toNat = b := by rw [hb]; exact get_at s i hii
  have hby : byteI s i = b := by unfold byteI; rw [hb]
  clear hb
  by_cases e34 : (b : Int) = 34
  ·have HQ := hid (show quotB s i = quotG s (i + 1) [] by unfold quotB; rw [if_pos hii, hby, if_pos e34])
   obtain rfl : b = 34 := by omega
   clear e34
   obtain ⟨i0, hi, hz0, hz1, hz2⟩ := info_parts (show (Tryz.prog.info? 5).map (fun i => (i.zero, i.size, i.bytes)) = some (some (.int .u8 0), 1, 1) from by kernel_rfl)
   go_enter Tryz.func180, Tryz.ntmps180
   go_wp2_with fail
   go_loopw [1, 6] (fun s1 s6 wr => ∃ (j : Nat) (M : List UInt8) (A : Option Addr) (c n : Nat), j <= s.size /\ s1 = .int .i64 j /\ n = M.length /\ s6 = .slice A n c /\ wr.ownsRow w.heap.size 5 1 (.slice A n c) n (Lib.strCells ⟨M.toArray⟩) /\ n <= 4 * j /\ quotB s i = quotG s j M /\ Below w.heap.size w wr) (fun s1 _ _ => s.size - (Lib.intOf s1).toNat)
   case atStart => exact ⟨i + 1, [], some ⟨w.heap.size, 0, none⟩, 0, 0, by omega, by go_num, rfl, rfl, own_empty rfl (Nat.le_refl _), by omega, HQ.out, bel⟩
   case round =>
    obtain ⟨j, M, A, c, n, hjl, rfl, hn, rfl, hown, hnj, hq, hbr⟩ := hrel
    have HO := hid hown
    have HG := hid hq
    have HBr := hid hbr
    have HNn := hid hn
    clear hown hq hbr hn hx hby
    by_cases hlt2 : (j : Int) < s.size
    ·have hjj : j < s.size := by omega
     have hj0 : (0 : Int) <= j := by omega
     obtain ⟨b, hb⟩ : ∃ b : Nat, b = (s.get! j).toNat := ⟨_, rfl⟩
     have hx : (s[j]'hjj).toNat = b := by rw [hb]; exact get_at s j hjj
     have hby : byteI s j = b := by unfold byteI; rw [hb]
     have HS := hid (HG.out.trans (quotG_at hjj))
     rw [hby] at HS
     have HY := hid hby
     clear hb hby
     by_cases e34 : (b : Int) = 34
     ·have Hf := hid (show quotB s i = (⟨M.toArray⟩, (j : Int) + 1) by rw [HS.out, if_pos e34])
      obtain rfl : b = 34 := by omega
      clear e34
      have hcv := own_string HNn.out HO.out
      go_wp2_with fail
      go_ret2
      exact ⟨by rw [Hf.out]; rfl, HBr.out⟩
     ·have f34 : ((b : Int) == 34) = false := beq_eq_false_iff_ne.2 e34
      have HT := hid (show quotB s i = if (quotN s j).2 < 0 then (⟨#[]⟩, -1) else quotG s (quotN s j).2.toNat (M ++ (textB (quotN s j).1).data.toList) by rw [HS.out, if_neg e34])
      by_cases e92 : (b : Int) = 92
      ·obtain rfl : b = 92 := by omega
       clear e92 e34 f34
       obtain ⟨p1, hp1⟩ : ∃ p, p = j + 1 := ⟨_, rfl⟩
       have q1 : (j : Int) + 1 = p1 := by omega
       obtain ⟨x, hxx⟩ : ∃ x, x = (escB s p1).1 := ⟨_, rfl⟩
       obtain ⟨y, hyy⟩ : ∃ y, y = (escB s p1).2 := ⟨_, rfl⟩
       have hN : quotN s j = (x, y) := by unfold quotN; rw [HY.out, if_pos (show ((92 : Nat) : Int) = 92 from rfl), <- hp1, hxx, hyy]
       rw [hN] at HT
       obtain ⟨hn1, hn2, hn3⟩ := escB_next s p1
       rw [<- hxx] at hn2 hn3
       rw [<- hyy] at hn1
       have HXY := hid (And.intro hxx hyy)
       have HN1 := hid hn1
       clear hxx hyy hN hn1 hp1
       by_cases y0 : y < 0
       ·have Hf := hid (show quotB s i = (⟨#[]⟩, -1) by rw [HT.out]; exact if_pos y0)
        go_wp2_with fail
        refine (c_impl_readEscape s p1 _ hs (by omega) (HVT.out.1.below HBr.out) (HVT.out.2.below HBr.out)).mono ?_
        rintro e w1 ⟨rfl, hb⟩
        have HB1 := hid (HBr.out.trans (hb.mono HBr.out.size))
        rw [<- HXY.out.1, <- HXY.out.2]
        go_wp2_with fail
        go_ret2
        exact ⟨by rw [Hf.out]; rfl, HB1.out⟩
       ·obtain ⟨q, rfl⟩ : ∃ q : Nat, y = q := ⟨y.toNat, by omega⟩
        have hjq : j < q := by have := HN1.out; omega
        have hqs : q <= s.size := by have := HN1.out; omega
        have HE := hid (show quotB s i = quotG s q (M ++ (textB x).data.toList) by rw [HT.out]; exact if_neg y0)
        have d0 : decide ((q : Int) < 0) = false := decide_eq_false y0
        clear y0
        go_wp2_with fail
        refine (c_impl_readEscape s p1 _ hs (by omega) (HVT.out.1.below HBr.out) (HVT.out.2.below HBr.out)).mono ?_
        rintro e w2 ⟨rfl, hb2⟩
        have B2 : Below w.heap.size w w2 := HBr.out.trans (hb2.mono (HBr.out).size)
        have hR2 := own_on HO.out B2 hb2
        rw [<- HXY.out.1, <- HXY.out.2]
        go_wp2_with fail
        refine (c_impl_RuneText x _ (by omega)).mono ?_
        rintro e w9 ⟨rfl, rfl⟩
        have htz := textB_size x
        have hM4 : n + (textB x).size <= 4 * q := by omega
        have HB2 := hid B2
        have hsz2 := B2.size
        clear hb2 B2
        go_wp2_with (at_builtin; refine wpList_append_own_string _ rfl (.tmp 56) (.tmp 58) 28 9 rfl w.heap.size 5 i0 Tryz.underlying28 Tryz.underlying9 hi hz0 hz1 hz2 _ n _ rfl hR2 (textB x) rfl (by simp only [maxLen]; omega) (by omega) hsz2 ?_; intro v5 w5 hR5 hg5 _; obtain ⟨A5, c5, rfl⟩ := own_form hR5; rw [strCells_list] at hR5)
        have HB5 := Below.grown HB2.out hg5 hsz2 (fun k hk => (World.ownsRow.lt hR2 k hk).1)
        go_roundw
        case rel => exact ⟨q, M ++ (textB x).data.toList, A5, c5, n + (textB x).size, by omega, rfl, by rw [List.length_append, HNn.out, Array.length_toList]; rfl, rfl, hR5, hM4, HE.out, HB5⟩
        case measure => simp [Lib.intOf]; omega
      ·have f92 : ((b : Int) == 92) = false := beq_eq_false_iff_ne.2 e92
       obtain ⟨x, hxx⟩ : ∃ x, x = (runeB s j).1 := ⟨_, rfl⟩
       obtain ⟨y, hyy⟩ : ∃ y, y = (runeB s j).2 := ⟨_, rfl⟩
       have hN : quotN s j = if x < 32 then (0, -1) else (x, y) := by unfold quotN; rw [HY.out, if_neg e92, hxx, hyy]
       rw [hN] at HT
       obtain ⟨hn1, hn2, hn3⟩ := runeB_next s j
       rw [<- hxx] at hn2 hn3
       rw [<- hyy] at hn1
       have HXY := hid (And.intro hxx hyy)
       have HN1 := hid hn1
       clear hxx hyy hN hn1 e92 e34
       by_cases x32 : x < 32
       ·rw [if_pos x32] at HT
        have Hf := hid (show quotB s i = (⟨#[]⟩, -1) by rw [HT.out]; rfl)
        go_wp2_with fail
        refine (c_impl_RuneAt s j _ (by omega) (by omega) (HVT.out.2.below HBr.out)).mono ?_
        rintro e w1 ⟨rfl, hb⟩
        have HB1 := hid (HBr.out.trans (hb.mono HBr.out.size))
        rw [<- HXY.out.1, <- HXY.out.2]
        go_wp2_with fail
        go_ret2
        exact ⟨by rw [Hf.out]; rfl, HB1.out⟩
       ·rw [if_neg x32] at HT
        have d32 : decide (x < 32) = false := decide_eq_false x32
        clear x32
        by_cases y0 : y < 0
        ·have Hf := hid (show quotB s i = (⟨#[]⟩, -1) by rw [HT.out]; exact if_pos y0)
         go_wp2_with fail
         refine (c_impl_RuneAt s j _ (by omega) (by omega) (HVT.out.2.below HBr.out)).mono ?_
         rintro e w1 ⟨rfl, hb⟩
         have HB1 := hid (HBr.out.trans (hb.mono HBr.out.size))
         rw [<- HXY.out.1, <- HXY.out.2]
         go_wp2_with fail
         go_ret2
         exact ⟨by rw [Hf.out]; rfl, HB1.out⟩
        ·obtain ⟨q, rfl⟩ : ∃ q : Nat, y = q := ⟨y.toNat, by omega⟩
         have hjq : j < q := by have := HN1.out; omega
         have hqs : q <= s.size := by have := HN1.out; omega
         have HE := hid (show quotB s i = quotG s q (M ++ (textB x).data.toList) by rw [HT.out]; exact if_neg y0)
         have d0 : decide ((q : Int) < 0) = false := decide_eq_false y0
         clear y0
         go_wp2_with fail
         refine (c_impl_RuneAt s j _ (by omega) (by omega) (HVT.out.2.below HBr.out)).mono ?_
         rintro e w2 ⟨rfl, hb2⟩
         have B2 : Below w.heap.size w w2 := HBr.out.trans (hb2.mono HBr.out.size)
         have hR2 := own_on HO.out B2 hb2
         rw [<- HXY.out.1, <- HXY.out.2]
         go_wp2_with fail
         refine (c_impl_RuneText x _ (by omega)).mono ?_
         rintro e w9 ⟨rfl, rfl⟩
         have htz := textB_size x
         have hM4 : n + (textB x).size <= 4 * q := by omega
         have HB2 := hid B2
         have hsz2 := B2.size
         clear hb2 B2
         go_wp2_with (at_builtin; refine wpList_append_own_string _ rfl (.tmp 56) (.tmp 58) 28 9 rfl w.heap.size 5 i0 Tryz.underlying28 Tryz.underlying9 hi hz0 hz1 hz2 _ n _ rfl hR2 (textB x) rfl (by simp only [maxLen]; omega) (by omega) hsz2 ?_; intro v5 w5 hR5 hg5 _; obtain ⟨A5, c5, rfl⟩ := own_form hR5; rw [strCells_list] at hR5)
         have HB5 := Below.grown HB2.out hg5 hsz2 (fun k hk => (World.ownsRow.lt hR2 k hk).1)
         go_roundw
         case rel => exact ⟨q, M ++ (textB x).data.toList, A5, c5, n + (textB x).size, by omega, rfl, by rw [List.length_append, HNn.out, Array.length_toList]; rfl, rfl, hR5, hM4, HE.out, HB5⟩
         case measure => simp [Lib.intOf]; omega
    ·have Hf := hid (show quotB s i = (⟨#[]⟩, -1) by rw [HG.out]; exact quotG_end (by omega))
     go_wp2_with fail
     go_ret2
     exact ⟨by rw [Hf.out]; rfl, HBr.out⟩
  ·have HQ := hid (show quotB s i = (⟨#[]⟩, -1) by unfold quotB; rw [if_pos hii, hby, if_neg e34])
   have f34 : ((b : Int) == 34) = false := beq_eq_false_iff_ne.2 e34
   have n34 : ((b : Int) != 34) = true := bne_iff_ne.2 e34
   clear e34
   go_enter Tryz.func180, Tryz.ntmps180
   go_wp2_with fail
   go_ret2
   exact ⟨by rw [HQ.out]; rfl, Below.refl _ _⟩
 ·have HQ := hid (show quotB s i = (⟨#[]⟩, -1) by unfold quotB; rw [if_neg (by omega)])
  have hz0 : (0 : Int) <= i := by omega
  go_enter Tryz.func180, Tryz.ntmps180
  go_wp2_with fail
  go_ret2
  exact ⟨by rw [HQ.out]; rfl, Below.refl _ _⟩
def BufB (base : Nat) (w : World) (M : List UInt8) (v : Value) : Prop := w.ownsRow base 5 1 v M.length (Lib.strCells ⟨M.toArray⟩)
theorem BufB.below {base : Nat} {w w' : World} {M : List UInt8} {v : Value} (h : BufB base w M v) (hb : Below w.heap.size w w') : BufB base w' M v := ownsRow_carry h (fun q hq => hb.block q (World.ownsRow.lt h q hq).2)
theorem cells_one (l : List UInt8) : ∀ x ∈ Lib.strCells ⟨l.toArray⟩, x.oneCell' = true := by
 intro x hx
 unfold Lib.strCells at hx
 rw [List.mem_map] at hx
 obtain ⟨b, -, rfl⟩ := hx
 rfl
theorem cells_len (l : List UInt8) : (Lib.strCells ⟨l.toArray⟩).length = l.length := by unfold Lib.strCells; rw [List.length_map]
theorem own_lit {w : World} {bs : List UInt8} {k : Nat} (hk : k = bs.length) (hm : k <= 1048576) {cs : List Value} (hcs : cs = Lib.strCells ⟨bs.toArray⟩) :
  (w.alloc (.cells cs.toArray 5)).ownsRow w.heap.size 5 1 (.slice (some ⟨w.heap.size, 0, none⟩) k k) k (Lib.strCells ⟨bs.toArray⟩) := by
 have hl := cells_len bs
 subst hcs hk
 exact ⟨by rw [hl, Nat.mul_one], .inr ⟨w.heap.size, bs.length, (Lib.strCells ⟨bs.toArray⟩).toArray, rfl, Nat.le_refl _, heap_alloc_new w _, Nat.le_refl _, by unfold maxLen; omega, by rw [List.size_toArray, hl]; omega, by rw [List.take_of_length_le (by simp [hl])]⟩⟩
theorem run_buf (wx : World) (base n c k : Nat) (A : Option Addr) (M bs : List UInt8) (cs : List Value) (hn : n = M.length) (h : BufB base wx M (.slice A n c)) (hk : k = bs.length) (hcs : cs = Lib.strCells ⟨bs.toArray⟩) (hsz : n + k <= 1073741824) (hk2 : k <= 1048576) (hbase : base <= wx.heap.size) :
  ∃ (A' : Option Addr) (c' : Nat) (w' : World), (Builtin.append_ #[28, 28] 28 #[.slice A n c, .slice (some ⟨wx.heap.size, 0, none⟩) k k]).run Tryz.prog (wx.alloc (.cells cs.toArray 5)) = .ok (.slice A' (n + k) c') w' /\ BufB base w' (M ++ bs) (.slice A' (n + k) c') /\ Below base wx w' := by
 obtain ⟨i0, hi, hz0, hz1, hz2⟩ := info_parts (show (Tryz.prog.info? 5).map (fun i => (i.zero, i.size, i.bytes)) = some (some (.int .u8 0), 1, 1) from by kernel_rfl)
 unfold BufB at h
 rw [<- hn] at h
 have hb : Below wx.heap.size wx (wx.alloc (.cells cs.toArray 5)) := bel
 have h' := ownsRow_carry h (fun q hq => hb.block q (World.ownsRow.lt h q hq).2)
 obtain ⟨v', w', hr, h2, h3, h5⟩ := run_append_row (P := Tryz.prog) (wx.alloc (.cells cs.toArray 5)) 28 28 base 5 i0 (.int .u8 0) 1 1 Tryz.underlying28 hi hz0 hz1 hz2 rfl (by decide) (.slice A n c) n _ h' wx.heap.size k _ _ (own_lit hk hk2 hcs) (cells_one bs) (by unfold maxLen; omega) (by omega) (by simp; omega)
 obtain ⟨A', c', rfl⟩ := own_form h2
 refine ⟨A', c', w', hr, ?_, Below.grown (hb.mono hbase) h3 (by simp; omega) (fun q hq => (World.ownsRow.lt h q hq).1)⟩
 unfold BufB
 rw [List.length_append, <- hn, <- hk]
 rw [strCells_list] at h2
 exact h2
def escK (b : Nat) : Int := if b = 8 then 0 else if b = 12 then 1 else if b = 10 then 2 else if b = 13 then 3 else if b = 9 then 4 else -1
theorem idx_escK : ∀ i : Fin 256, Lib.indexByte [8, 12, 10, 13, 9] (UInt8.ofNat i.val) = escK i.val := by decide
theorem c_IndexEscK (b : Nat) (hb : b < 256) (w : World) : Calls Tryz.prog 130 #[.string { data := #[8, 12, 10, 13, 9] }, .int .u8 b] w fun e w' => e = .returned (.int .i64 (escK b)) /\ w = w' := by
 have h := c_strings_IndexByte { data := #[8, 12, 10, 13, 9] } (UInt8.ofNat b) w
 have e1 : (UInt8.ofNat b).toNat = b := by rw [UInt8.toNat_ofNat']; exact Nat.mod_eq_of_lt hb
 rw [e1] at h
 exact h.mono (fun _ _ h => ⟨h.1.trans (congrArg (fun z => Ending.returned (Value.int .i64 z)) (idx_escK ⟨b, hb⟩)), h.2⟩)
theorem hexd : ∀ (x : Nat) (h : x < 16), (({ data := #[48, 49, 50, 51, 52, 53, 54, 55, 56, 57, 97, 98, 99, 100, 101, 102] } : ByteArray)[x]'h).toNat = (figU x).toNat := by
 intro x h
 have h16 : x = 0 ∨ x = 1 ∨ x = 2 ∨ x = 3 ∨ x = 4 ∨ x = 5 ∨ x = 6 ∨ x = 7 ∨ x = 8 ∨ x = 9 ∨ x = 10 ∨ x = 11 ∨ x = 12 ∨ x = 13 ∨ x = 14 ∨ x = 15 := by omega
 rcases h16 with rfl | rfl | rfl | rfl | rfl | rfl | rfl | rfl | rfl | rfl | rfl | rfl | rfl | rfl | rfl | rfl <;> rfl
theorem take_flat {s : ByteArray} {k : Nat} {c : UInt8} (h : s.data.toList[k]? = some c) : (s.data.toList.take (k + 1)).flatMap qB = (s.data.toList.take k).flatMap qB ++ qB c := by
 rw [List.take_add_one, h]
 simp
theorem c_impl_Quoted (s : ByteArray) (w : World) (hs : s.size <= 1048576) (hT : Tabs w) :
  Calls Tryz.prog 163 #[.string s] w fun e w' => e = .returned (.string (quoteB s)) /\ Below w.heap.size w w' := by
 have HU := hid (c_impl_Utf8Ok s w (by omega) hT)
 obtain ⟨r, hr⟩ : ∃ r, r = quoteB s := ⟨_, rfl⟩
 rw [<- hr]
 clear hT
 rcases hu : utf8B s with _ | _
 ·have HR := hid (show r = ⟨#[]⟩ by rw [hr]; unfold quoteB; rw [hu]; rfl)
  clear hr
  go_enter Tryz.func163, Tryz.ntmps163
  go_wp2_with (go_at_call 222; refine HU.out.mono ?_; rintro e w1 ⟨rfl, hb⟩; (first | (have hcu2 := Cum.join hcu hb; (try clear hcu); (try clear hc); (try clear hfz); (try clear hsz); (try clear hs0); (try clear hs1); (try clear hs2); (try clear hs3); (try clear hs4); ) | have hcu2 := Cum.mk hb); have hcu := hcu2; clear hcu2; obtain ⟨hc, hfz⟩ := bcell hcu.h; have hsz := hcu.h.size; (try simp at hsz); (try have hs0 := lt_of_succ_le hsz); (try (have hs1 := lt_pred hsz; (try (have hs2 := lt_pred hs1; (try (have hs3 := lt_pred hs2; (try have hs4 := lt_pred hs3))))))))
  go_ret
  exact ⟨by rw [HR.out]; rfl, bel⟩
 ·have HR := hid (show r = ⟨(34 :: s.data.toList.flatMap qB ++ [34]).toArray⟩ by rw [hr]; unfold quoteB; rw [hu]; rfl)
  clear hr
  go_enter Tryz.func163, Tryz.ntmps163
  go_wp2_with fail
  refine HU.out.mono ?_
  rintro e w1 ⟨rfl, hb1⟩
  have HB1 := hid hb1
  clear hb1
  go_wp2_with fail
  go_loopw [3, 13] (fun s3 v wr => ∃ (k : Nat) (M : List UInt8) (A : Option Addr) (n c : Nat), k <= s.size /\ v = .int .i64 k /\ M = 34 :: (s.data.toList.take k).flatMap qB /\ n = M.length /\ n <= 6 * k + 1 /\ s3 = .slice A n c /\ BufB w.heap.size wr M (.slice A n c) /\ Below w.heap.size w wr) (fun _ v _ => s.size - (Lib.intOf v).toNat)
  case atStart => exact ⟨0, [34], some ⟨w1.heap.size, 0, none⟩, 1, 1, Nat.zero_le _, rfl, rfl, rfl, by omega, rfl, own_less (own_lit (bs := [34]) (k := 1) rfl (by decide) rfl) HB1.out.size, HB1.out.trans (Below.mono bel HB1.out.size)⟩
  case round =>
   obtain ⟨k, M, A, n, c, hk, rfl, hM, hn, hn6, rfl, hbuf, hbr⟩ := hrel
   have HM := hid hM
   have HN := hid hn
   have HBf := hid hbuf
   have HBr := hid hbr
   have hws := hbr.size
   clear hM hn hbuf hbr
   by_cases hlt : k < s.size
   ·have hk0 : (0 : Int) <= k := by omega
    have hk1 : (k : Int) < s.size := by omega
    obtain ⟨b, hb⟩ : ∃ b : Nat, b = (s.get! k).toNat := ⟨_, rfl⟩
    have hx : (s[k]'hlt).toNat = b := by rw [hb]; exact get_at s k hlt
    have hb256 : b < 256 := by rw [<- hx]; exact UInt8.toNat_lt _
    have HQ := hid (show (s.data.toList.take (k + 1)).flatMap qB = (s.data.toList.take k).flatMap qB ++ qN b by
     rw [take_flat (c := s[k]'hlt) (by rw [Array.getElem?_toList]; exact Array.getElem?_eq_getElem hlt), <- hx]; rfl)
    have hql := qN_len b
    clear hb
    obtain ⟨m, hm⟩ : ∃ m, m = (qN b).length := ⟨_, rfl⟩
    rw [<- hm] at hql
    have HMm := hid hm
    clear hm
    go_upto_block 1 with fail
    go_cut [3] from 15 to 55 (fun s3 wx => ∃ (A' : Option Addr) (c' : Nat), s3 = .slice A' (n + m) c' /\ BufB w.heap.size wx (M ++ qN b) (.slice A' (n + m) c') /\ Below w.heap.size w wx)
    case first =>
     by_cases e34 : b = 34 ∨ b = 92
     ·have f1 : ((b : Int) == 34) = true ∨ ((b : Int) == 34) = false /\ ((b : Int) == 92) = true := by
       rcases e34 with rfl | rfl
       ·exact .inl rfl
       ·exact .inr ⟨rfl, rfl⟩
      rcases f1 with f1 | ⟨f1, f2⟩
      all_goals
       obtain ⟨A', c', w2, hr2, hb2, hbb2⟩ := run_buf wr w.heap.size n c 2 A M ([92, UInt8.ofNat b]) [.int .u8 92, .int .u8 (b : Int)] HN.out HBf.out rfl (by simp [Lib.strCells, Nat.mod_eq_of_lt hb256]) (by omega) (by decide) hws
       have HB2 := hid (And.intro hb2 (HBr.out.trans hbb2))
       have HQn := hid (show qN b = [92, UInt8.ofNat b] from by unfold qN; rw [if_pos e34])
       have hm2 : m = 2 := by rw [HMm.out, HQn.out]; rfl
       subst hm2
       clear hb2 hbb2
       go_wp2_with (first | (go_at_call 130; refine (c_IndexEscK b hb256 _).mono ?_; rintro e w9 ⟨rfl, rfl⟩) | (at_builtin; refine wpList_append_of rfl (.tmp 32) (.tmp 34) 28 rfl _ _ _ w2 rfl rfl hr2 ?_))
       go_meet
       exact ⟨A', c', rfl, by rw [HQn.out]; exact HB2.out.1, HB2.out.2⟩
     ·have f1 : ((b : Int) == 34) = false := beq_eq_false_iff_ne.2 (by omega)
      have f2 : ((b : Int) == 92) = false := beq_eq_false_iff_ne.2 (by omega)
      by_cases e8 : b = 8 ∨ b = 12 ∨ b = 10 ∨ b = 13 ∨ b = 9
      ·skip
       rcases e8 with rfl | rfl | rfl | rfl | rfl
       ·obtain ⟨A', c', w2, hr2, hb2, hbb2⟩ := run_buf wr w.heap.size n c 2 A M ([92, 98]) [.int .u8 92, .int .u8 98] HN.out HBf.out rfl rfl (by omega) (by decide) hws
        have HB2 := hid (And.intro hb2 (HBr.out.trans hbb2))
        have HQn := hid (show qN 8 = [92, 98] from rfl)
        have hm2 : m = 2 := by rw [HMm.out, HQn.out]; rfl
        subst hm2
        have HK := hid (show escK 8 = 0 from rfl)
        clear hb2 hbb2 e34
        go_wp2_with (first | (go_at_call 130; refine (c_IndexEscK 8 hb256 _).mono ?_; rintro e w9 ⟨rfl, rfl⟩; rw [HK.out]) | (at_builtin; refine wpList_append_of rfl (.tmp 39) (.tmp 42) 28 rfl _ _ _ w2 rfl rfl hr2 ?_))
        go_meet
        exact ⟨A', c', rfl, by rw [HQn.out]; exact HB2.out.1, HB2.out.2⟩
       ·obtain ⟨A', c', w2, hr2, hb2, hbb2⟩ := run_buf wr w.heap.size n c 2 A M ([92, 102]) [.int .u8 92, .int .u8 102] HN.out HBf.out rfl rfl (by omega) (by decide) hws
        have HB2 := hid (And.intro hb2 (HBr.out.trans hbb2))
        have HQn := hid (show qN 12 = [92, 102] from rfl)
        have hm2 : m = 2 := by rw [HMm.out, HQn.out]; rfl
        subst hm2
        have HK := hid (show escK 12 = 1 from rfl)
        clear hb2 hbb2 e34
        go_wp2_with (first | (go_at_call 130; refine (c_IndexEscK 12 hb256 _).mono ?_; rintro e w9 ⟨rfl, rfl⟩; rw [HK.out]) | (at_builtin; refine wpList_append_of rfl (.tmp 39) (.tmp 42) 28 rfl _ _ _ w2 rfl rfl hr2 ?_))
        go_meet
        exact ⟨A', c', rfl, by rw [HQn.out]; exact HB2.out.1, HB2.out.2⟩
       ·obtain ⟨A', c', w2, hr2, hb2, hbb2⟩ := run_buf wr w.heap.size n c 2 A M ([92, 110]) [.int .u8 92, .int .u8 110] HN.out HBf.out rfl rfl (by omega) (by decide) hws
        have HB2 := hid (And.intro hb2 (HBr.out.trans hbb2))
        have HQn := hid (show qN 10 = [92, 110] from rfl)
        have hm2 : m = 2 := by rw [HMm.out, HQn.out]; rfl
        subst hm2
        have HK := hid (show escK 10 = 2 from rfl)
        clear hb2 hbb2 e34
        go_wp2_with (first | (go_at_call 130; refine (c_IndexEscK 10 hb256 _).mono ?_; rintro e w9 ⟨rfl, rfl⟩; rw [HK.out]) | (at_builtin; refine wpList_append_of rfl (.tmp 39) (.tmp 42) 28 rfl _ _ _ w2 rfl rfl hr2 ?_))
        go_meet
        exact ⟨A', c', rfl, by rw [HQn.out]; exact HB2.out.1, HB2.out.2⟩
       ·obtain ⟨A', c', w2, hr2, hb2, hbb2⟩ := run_buf wr w.heap.size n c 2 A M ([92, 114]) [.int .u8 92, .int .u8 114] HN.out HBf.out rfl rfl (by omega) (by decide) hws
        have HB2 := hid (And.intro hb2 (HBr.out.trans hbb2))
        have HQn := hid (show qN 13 = [92, 114] from rfl)
        have hm2 : m = 2 := by rw [HMm.out, HQn.out]; rfl
        subst hm2
        have HK := hid (show escK 13 = 3 from rfl)
        clear hb2 hbb2 e34
        go_wp2_with (first | (go_at_call 130; refine (c_IndexEscK 13 hb256 _).mono ?_; rintro e w9 ⟨rfl, rfl⟩; rw [HK.out]) | (at_builtin; refine wpList_append_of rfl (.tmp 39) (.tmp 42) 28 rfl _ _ _ w2 rfl rfl hr2 ?_))
        go_meet
        exact ⟨A', c', rfl, by rw [HQn.out]; exact HB2.out.1, HB2.out.2⟩
       ·obtain ⟨A', c', w2, hr2, hb2, hbb2⟩ := run_buf wr w.heap.size n c 2 A M ([92, 116]) [.int .u8 92, .int .u8 116] HN.out HBf.out rfl rfl (by omega) (by decide) hws
        have HB2 := hid (And.intro hb2 (HBr.out.trans hbb2))
        have HQn := hid (show qN 9 = [92, 116] from rfl)
        have hm2 : m = 2 := by rw [HMm.out, HQn.out]; rfl
        subst hm2
        have HK := hid (show escK 9 = 4 from rfl)
        clear hb2 hbb2 e34
        go_wp2_with (first | (go_at_call 130; refine (c_IndexEscK 9 hb256 _).mono ?_; rintro e w9 ⟨rfl, rfl⟩; rw [HK.out]) | (at_builtin; refine wpList_append_of rfl (.tmp 39) (.tmp 42) 28 rfl _ _ _ w2 rfl rfl hr2 ?_))
        go_meet
        exact ⟨A', c', rfl, by rw [HQn.out]; exact HB2.out.1, HB2.out.2⟩
      ·have HK := hid (show escK b = -1 by unfold escK; rw [if_neg (by omega), if_neg (by omega), if_neg (by omega), if_neg (by omega), if_neg (by omega)])
       by_cases e32 : b < 32
       ·have f3 : decide ((b : Int) < 32) = true := decide_eq_true (by omega)
        obtain ⟨x, hx1⟩ : ∃ x : Nat, x = b / 16 := ⟨_, rfl⟩
        obtain ⟨y, hy1⟩ : ∃ y : Nat, y = b % 16 := ⟨_, rfl⟩
        have hx2 : (b : Int) / 16 = x := by omega
        have hy2 : (b : Int) % 16 = y := by omega
        have hy4 : (b : Int).tmod 16 = y := by rw [Int.tmod_eq_emod_of_nonneg (by omega)]; omega
        have hx3 : x < 16 := by omega
        have hy3 : y < 16 := by omega
        have hz1 : (0 : Int) <= x := by omega
        have hz2 : (0 : Int) <= y := by omega
        have hz3 : (x : Int) < 16 := by omega
        have hz4 : (y : Int) < 16 := by omega
        have hwx : IntKind.u8.wrap (x : Int) = x := by rw [IntKind.wrap_u8]; omega
        have hwy : IntKind.u8.wrap (y : Int) = y := by rw [IntKind.wrap_u8]; omega
        have hsx : x < ({ data := #[48, 49, 50, 51, 52, 53, 54, 55, 56, 57, 97, 98, 99, 100, 101, 102] } : ByteArray).size := hx3
        have hsy : y < ({ data := #[48, 49, 50, 51, 52, 53, 54, 55, 56, 57, 97, 98, 99, 100, 101, 102] } : ByteArray).size := hy3
        obtain ⟨A', c', w2, hr2, hb2, hbb2⟩ := run_buf wr.drew w.heap.size n c 6 A M [92, 117, 48, 48, figU x, figU y] [.int .u8 92, .int .u8 117, .int .u8 48, .int .u8 48, .int .u8 ((({ data := #[48, 49, 50, 51, 52, 53, 54, 55, 56, 57, 97, 98, 99, 100, 101, 102] } : ByteArray)[x]'(hsx)).toNat : Nat), .int .u8 ((({ data := #[48, 49, 50, 51, 52, 53, 54, 55, 56, 57, 97, 98, 99, 100, 101, 102] } : ByteArray)[y]'(hsy)).toNat : Nat)] HN.out (HBf.out.below (Below.refl _ _).drew) rfl (by rw [hexd x hx3, hexd y hy3]; rfl) (by omega) (by decide) hws
        have HB2 := hid (And.intro hb2 ((HBr.out.trans (Below.mono (Below.refl _ _).drew HBr.out.size)).trans hbb2))
        have HQn := hid (show qN b = [92, 117, 48, 48, figU x, figU y] by unfold qN; rw [if_neg e34, if_neg (by omega), if_neg (by omega), if_neg (by omega), if_neg (by omega), if_neg (by omega), if_pos e32, hx1, hy1])
        have hm2 : m = 6 := by rw [HMm.out, HQn.out]; rfl
        subst hm2
        clear hx1 hy1 hb2 hbb2
        go_wp2_with (first | (go_at_call 130; refine (c_IndexEscK _ hb256 _).mono ?_; rintro e w9 ⟨rfl, rfl⟩; rw [HK.out]))
        go_region_law (first | (refine step_append_of rfl (.tmp 47) (.tmp 54) 28 rfl _ _ _ w2 rfl rfl hr2 ?_))
        all_goals
         (try go_wp2_with fail)
         go_meet
         exact ⟨A', c', rfl, by rw [HQn.out]; exact HB2.out.1, HB2.out.2⟩
       ·have f3 : decide ((b : Int) < 32) = false := decide_eq_false (by omega)
        obtain ⟨A', c', w2, hr2, hb2, hbb2⟩ := run_buf wr w.heap.size n c 1 A M ([UInt8.ofNat b]) [.int .u8 (b : Int)] HN.out HBf.out rfl (by simp [Lib.strCells, Nat.mod_eq_of_lt hb256]) (by omega) (by decide) hws
        have HB2 := hid (And.intro hb2 (HBr.out.trans hbb2))
        have HQn := hid (show qN b = [UInt8.ofNat b] from by unfold qN; rw [if_neg e34, if_neg (by omega), if_neg (by omega), if_neg (by omega), if_neg (by omega), if_neg (by omega), if_neg e32])
        have hm2 : m = 1 := by rw [HMm.out, HQn.out]; rfl
        subst hm2
        clear hb2 hbb2
        go_wp2_with (first | (go_at_call 130; refine (c_IndexEscK b hb256 _).mono ?_; rintro e w9 ⟨rfl, rfl⟩; rw [HK.out]) | (at_builtin; refine wpList_append_of rfl (.tmp 21) (.tmp 23) 28 rfl _ _ _ w2 rfl rfl hr2 ?_))
        go_meet
        exact ⟨A', c', rfl, by rw [HQn.out]; exact HB2.out.1, HB2.out.2⟩
    case rest =>
     obtain ⟨A', c', rfl, hbf, hbb⟩ := hcut
     have HB' := hid hbf
     have HX := hid (show M ++ qN b = 34 :: (s.data.toList.take (k + 1)).flatMap qB by rw [HM.out, HQ.out]; rfl)
     clear hbf hx
     go_wp2_with fail
     go_roundw
     case rel => exact ⟨k + 1, M ++ qN b, A', n + m, c', by omega, by go_num, HX.out, by rw [List.length_append, HN.out, HMm.out], by omega, rfl, HB'.out, hbb⟩
     case measure => simp [Lib.intOf]; omega
   ·obtain rfl : k = s.size := by omega
    have HX := hid (show r = ⟨(M ++ [34]).toArray⟩ by rw [HR.out, HM.out, List.take_of_length_le (by rw [Array.length_toList]; exact Nat.le_refl _)])
    obtain ⟨A', c', w2, hr2, hb2, hbb2⟩ := run_buf wr w.heap.size n c 1 A M [34] [.int .u8 34] HN.out HBf.out rfl rfl (by omega) (by decide) hws
    have hn1 : n + 1 = (M ++ [34]).length := by rw [List.length_append, <- HN.out]; rfl
    have hcv := own_string hn1 (show w2.ownsRow w.heap.size 5 1 (.slice A' (n + 1) c') (n + 1) (Lib.strCells ⟨(M ++ [34]).toArray⟩) from hn1 ▸ hb2)
    have HN1 := hid hn1
    clear hn1 hb2
    go_wp2_with (at_builtin; refine wpList_append_of rfl (.tmp 57) (.tmp 58) 28 rfl _ _ _ w2 rfl rfl hr2 ?_)
    go_ret
    exact ⟨by rw [HX.out]; rfl, HBr.out.trans hbb2⟩
end Go.Proofs.YtohcpifekcehjaaGreatDoor
