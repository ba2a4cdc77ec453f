/- Written by wip/tools/pack.py: the texts that FnOrder needs, without what it does not need. No conditions. -/
import Derived.Test.YtffelpdefjkeaaaGreatDoorKFnOrder1
import Derived.Test.YtffelpdefjkeaaaGreatDoorKFnOrder4
import Derived.Test.YtffelpdefjkeaaaGreatDoorKFnOrder5
import Derived.Lib.ItoaNum
import Derived.Lib.AtoiAllCases
import Derived.Shelf.LaysC
import Derived.Shelf.Strconv.AtoiAll
import Derived.Deep.CutBlock
import Derived.Deep.CutRange
import Derived.Shelf.Lays
import Derived.Shelf.Strings.Prefix
namespace Go.Proofs.YtffelpdefjkeaaaGreatDoor
open Go.RowKit
structure SignD where
  kind : Int
  text : ByteArray
  num : Int
  at' : Int
/-- The kind of the sign at p; 0 behind the last one. -/
def kindAt (L : List SignD) (p : Nat) : Int := match L[p]? with | some x => x.kind | none => 0
/-- The place of the sign at p; the text's end behind the last one. -/
def placeAt (L : List SignD) (E : Int) (p : Nat) : Int := match L[p]? with | some x => x.at' | none => E
def badF (L : List SignD) (E : Int) (code : Int) (p : Nat) : Flt := ⟨code, placeAt L E p, ⟨#[]⟩⟩
def tNull : TreeD := ⟨1, false, 0, ⟨#[]⟩, [], []⟩
def tFlag (b : Bool) : TreeD := ⟨2, b, 0, ⟨#[]⟩, [], []⟩
def tInt (n : Int) : TreeD := ⟨3, false, n, ⟨#[]⟩, [], []⟩
def tText (s : ByteArray) : TreeD := ⟨4, false, 0, s, [], []⟩
def tList (l : List TreeD) : TreeD := ⟨5, false, 0, ⟨#[]⟩, [], l⟩
def tMap (ks : List ByteArray) (l : List TreeD) : TreeD := ⟨6, false, 0, ⟨#[]⟩, ks, l⟩
/-- How many keys ahead of key are less. -/
def posK (ks : List ByteArray) (key : ByteArray) : Nat := (ks.takeWhile fun k => lessS k key).length
def insL {D : Type} (l : List D) (i : Nat) (x : D) : List D := l.take i ++ x :: l.drop i
inductive Job where
  | value (deep : Nat)
  | list (deep : Nat) (acc : List TreeD)
  | pairs (deep : Nat) (ks : List ByteArray) (acc : List TreeD)
inductive Res where
  | bad (f : Flt)
  | good (t : TreeD) (p m : Nat)
/-- Reading with fuel: a job at the sign p, m values counted so far. -/
def readJ (L : List SignD) (E : Int) : Nat → Job → Nat → Nat → Res
  | 0, _, _, _ => .bad flt0
  | n + 1, .value d, p, m =>
    if ¬ (kindAt L p = 1 ∨ kindAt L p = 3 ∨ 7 ≤ kindAt L p) then .bad (badF L E 4 p)
    else if 8 < d then .bad (badF L E 6 p)
    else if 300 ≤ m then .bad (badF L E 7 p)
    else match L[p]? with
      | none => .bad flt0
      | some x =>
        if x.kind = 7 then (if 400 < x.text.size then .bad (badF L E 8 p) else .good (tText x.text) (p + 1) (m + 1))
        else if x.kind = 8 then .good (tInt x.num) (p + 1) (m + 1)
        else if x.kind = 11 then .good tNull (p + 1) (m + 1)
        else if x.kind = 3 then (if kindAt L (p + 1) = 4 then .good (tList []) (p + 2) (m + 1) else readJ L E n (.list d []) (p + 1) (m + 1))
        else if x.kind = 1 then (if kindAt L (p + 1) = 2 then .good (tMap [] []) (p + 2) (m + 1) else readJ L E n (.pairs d [] []) (p + 1) (m + 1))
        else .good (tFlag (x.kind == 9)) (p + 1) (m + 1)
  | n + 1, .list d acc, p, m => match readJ L E n (.value (d + 1)) p m with
    | .bad f => .bad f
    | .good t q m' =>
      if kindAt L q = 4 then .good (tList (acc ++ [t])) (q + 1) m'
      else if kindAt L q = 6 then readJ L E n (.list d (acc ++ [t])) (q + 1) m'
      else .bad (badF L E 4 q)
  | n + 1, .pairs d ks acc, p, m => match L[p]? with
    | none => .bad (badF L E 4 p)
    | some x =>
      if x.kind ≠ 7 then .bad (badF L E 4 p)
      else if 400 < x.text.size then .bad (badF L E 8 p)
      else if ks.contains x.text then .bad (badF L E 5 p)
      else if kindAt L (p + 1) ≠ 5 then .bad (badF L E 4 (p + 1))
      else match readJ L E n (.value (d + 1)) (p + 2) m with
        | .bad f => .bad f
        | .good t q m' =>
          if kindAt L q = 2 then .good (tMap (insL ks (posK ks x.text) x.text) (insL acc (posK ks x.text) t)) (q + 1) m'
          else if kindAt L q = 6 then readJ L E n (.pairs d (insL ks (posK ks x.text) x.text) (insL acc (posK ks x.text) t)) (q + 1) m'
          else .bad (badF L E 4 q)
/-- Reading all signs. -/
def readL (L : List SignD) (E : Int) : Flt × TreeD := match readJ L E (2 * L.length + 4) (.value 1) 0 0 with
  | .bad f => (f, ⟨0, false, 0, ⟨#[]⟩, [], []⟩)
  | .good t p _ => if p < L.length then (badF L E 4 p, ⟨0, false, 0, ⟨#[]⟩, [], []⟩) else (flt0, t)
end Go.Proofs.YtffelpdefjkeaaaGreatDoor
namespace Go.Proofs.YtffelpdefjkeaaaGreatDoor
open Go.RowKit
def decS (n : Int) : ByteArray := ⟨(Lib.itoa n).toArray⟩
theorem dec_len : ∀ (k u : Nat), u < 10 ^ (k + 1) → (Lib.decDigits u).length ≤ k + 1
  | 0, u, h => by
    rw [Lib.decDigits, dif_pos (by simpa using h)]
    simp
  | k + 1, u, h => by
    rw [Lib.decDigits]
    by_cases h10 : u < 10
    · rw [dif_pos h10]; simp
    · rw [dif_neg h10, List.length_append]
      have h2 : u / 10 < 10 ^ (k + 1) := by
        rw [Nat.div_lt_iff_lt_mul (by decide)]
        rw [Nat.pow_succ] at h
        exact h
      have := dec_len k (u / 10) h2
      simp
      omega
theorem decS_size (n : Int) (hn : -9223372036854775808 ≤ n ∧ n ≤ 9223372036854775807) : (decS n).size ≤ 20 := by
  show (Lib.itoa n).toArray.size ≤ 20
  rw [List.size_toArray]
  unfold Lib.itoa
  split
  · have := dec_len 18 n.natAbs (by omega)
    rw [List.length_cons]
    omega
  · have := dec_len 18 n.toNat (by omega)
    omega
theorem app_assoc (a b c : ByteArray) : a ++ b ++ c = a ++ (b ++ c) := ByteArray.append_assoc
theorem mkL_dec (u : Nat) (hu : 0 < u) (out : ByteArray) : mkL u out = ⟨(Lib.decDigits u).toArray⟩ ++ out := by
  induction u using Nat.strongRecOn generalizing out with
  | ind u ih =>
    rw [mkL_pos u out hu, Lib.decDigits]
    by_cases h : u < 10
    · rw [dif_pos h]
      have h0 : u / 10 = 0 := by omega
      rw [h0, mkL_zero]
      unfold digit
      rw [Nat.mod_eq_of_lt h]
    · rw [dif_neg h, ih (u / 10) (by omega) (by omega)]
      rw [← app_assoc]
      congr 1
theorem decS_zero : decS 0 = ⟨#[48]⟩ := by
  unfold decS Lib.itoa
  rw [if_neg (by decide)]
  unfold Lib.decDigits
  rfl
theorem decS_pos (u : Nat) (hu : 0 < u) : decS u = mkL u ⟨#[]⟩ := by
  rw [mkL_dec u hu]
  unfold decS Lib.itoa
  rw [if_neg (by omega)]
  apply ByteArray.ext
  simp
theorem decS_neg (u : Nat) (hu : 0 < u) : decS (-(u : Int)) = ⟨#[45]⟩ ++ mkL u ⟨#[]⟩ := by
  rw [mkL_dec u hu]
  unfold decS Lib.itoa
  rw [if_pos (by omega)]
  apply ByteArray.ext
  simp
theorem c_spec_l01Figure (r : Nat) (w : World) (hr : r < 10) :
    Calls Tryz.prog 119 #[.int .i64 (r : Nat)] w fun e w' => e = .returned (.int .u8 (48 + (r : Int))) ∧ w = w' := by
  have h1 : (r : Int) < 10 := by omega
  have h0 : (0 : Int) ≤ r := by omega
  go_enter Tryz.func119, Tryz.ntmps119
  go_wp2_with fail
  go_ret
  exact ⟨by first | rfl | (congr 2; omega), rfl⟩
theorem tmod_neg10 (j : Nat) : (-(j : Int)).tmod 10 = -((j % 10 : Nat) : Int) := by
  rw [Int.neg_tmod, Int.tmod_eq_emod_of_nonneg (by omega)]
  omega
theorem tdiv_neg10 (j : Nat) : (-(j : Int)).tdiv 10 = -((j / 10 : Nat) : Int) := by
  rw [Int.neg_tdiv, Int.tdiv_eq_ediv_of_nonneg (by omega)]
  omega
theorem figure_text (w : World) (j r : Nat) (hr : r = j % 10) : (convert 37 9 (.slice (some ⟨w.heap.size, 0, none⟩) 1 1)).run Tryz.prog (w.alloc (.cells #[.int .u8 (48 + (r : Int))] 5)) = .ok (.string (digit j)) (w.alloc (.cells #[.int .u8 (48 + (r : Int))] 5)) := by
  refine run_convert_bytes_back (P := Tryz.prog) _ 37 9 5 ⟨w.heap.size, 0, none⟩ 1 [UInt8.ofNat (48 + j % 10)] Tryz.underlying37 Tryz.underlying5 Tryz.underlying9 (fun i hi => ?_)
  obtain rfl : i = 0 := by simpa using hi
  have e : ((UInt8.ofNat (48 + j % 10)).toNat : Int) = 48 + (r : Int) := by
    rw [UInt8.toNat_ofNat']; omega
  have e2 : (⟨w.heap.size, 0, none⟩ : Addr).add 0 = ⟨w.heap.size, 0, none⟩ := rfl
  rw [e2, World.cell?_alloc_mark]
  simp only [List.getElem_cons_zero, e]
  rfl
set_option maxHeartbeats 1000000 in
set_option maxRecDepth 10000 in
theorem c_spec_Decimal (n : Int) (w : World) (hn : -9223372036854775808 ≤ n ∧ n ≤ 9223372036854775807) :
    Calls Tryz.prog 89 #[.int .i64 n] w fun e w' => e = .returned (.string (decS n)) ∧ Below w.heap.size w w' := by
  by_cases h0 : n = 0
  · subst h0
    have HZ := Lib.hid decS_zero
    go_enter Tryz.func89, Tryz.ntmps89
    go_wp2_with fail
    go_ret
    exact ⟨by rw [HZ.out]; rfl, Below.refl _ _⟩
  · by_cases hneg : n < 0
    · obtain ⟨u, rfl⟩ : ∃ u : Nat, n = -(u : Int) := ⟨n.natAbs, by omega⟩
      have hu : 0 < u := by omega
      have HD := Lib.hid (decS_neg u hu)
      obtain ⟨hn1, hn2⟩ := hn
      have h0b : (-(u : Int) == 0) = false := beq_eq_false_iff_ne.2 h0
      have hnb : decide (-(u : Int) < 0) = true := decide_eq_true hneg
      clear h0
      go_enter Tryz.func89, Tryz.ntmps89
      go_wp2_with fail
      go_loopw [0, 4] (fun s0 s4 wr => ∃ (j : Nat) (out : ByteArray), s0 = .int .i64 (-(j : Int)) ∧ s4 = .string out ∧ mkL j out = mkL u ⟨#[]⟩ ∧ out.size + j ≤ u ∧ (out.size = 0 ∨ out.size + j ≤ u / 10 + 1) ∧ Below w.heap.size w wr) (fun s0 _ _ => (intOf s0).natAbs)
      case atStart => exact ⟨u, ⟨#[]⟩, rfl, rfl, rfl, by show 0 + _ ≤ _; omega, .inl rfl, Below.refl _ _⟩
      case round =>
        obtain ⟨j, out, rfl, rfl, hm, hs, hs2, hbr⟩ := hrel
        have Hj := Lib.hid hm
        clear hm
        by_cases hj : 0 < j
        · have hj0 : (-(j : Int) != 0) = true := bne_iff_ne.2 (by omega)
          have hj1 : -9223372036854775808 ≤ -(j : Int) := by omega
          obtain ⟨r, hr⟩ : ∃ r, r = j % 10 := ⟨_, rfl⟩
          have h1 := tmod_neg10 j
          have h2 := tdiv_neg10 j
          rw [← hr] at h1
          have hr9 : r < 10 := by omega
          have hd1 : (digit j).size = 1 := rfl
          have Hn := Lib.hid (show mkL (j / 10) (digit j ++ out) = mkL u ⟨#[]⟩ by rw [← Hj.out, mkL_pos j out hj])
          have Hz := Lib.hid (show (digit j ++ out).size + j / 10 ≤ u ∧ ((digit j ++ out).size = 0 ∨ (digit j ++ out).size + j / 10 ≤ u / 10 + 1) by rw [ByteArray.size_append, hd1]; omega)
          have hcv := figure_text wr j r hr
          have hso : out.size ≤ 9223372036854775806 := by clear h1 h2; omega
          clear hr hs2
          by_cases hr0 : r = 0
          · subst hr0
            have hcv0 := hcv
            rw [show (48 + ((0 : Nat) : Int)) = 48 from rfl] at hcv0
            clear hcv
            go_wp2_with fail
            refine (c_spec_l01Figure 0 _ hr9).mono ?_
            rintro e w9 ⟨rfl, rfl⟩
            go_wp2_with fail
            go_roundw
            case rel => exact ⟨j / 10, digit j ++ out, by go_num, rfl, Hn.out, Hz.out.1, Hz.out.2, bel⟩
            case measure => simp [intOf]; omega
          · have hrn : -(r : Int) < 0 := by omega
            go_wp2_with fail
            refine (c_spec_l01Figure r _ hr9).mono ?_
            rintro e w9 ⟨rfl, rfl⟩
            go_wp2_with fail
            go_roundw
            case rel => exact ⟨j / 10, digit j ++ out, by go_num, rfl, Hn.out, Hz.out.1, Hz.out.2, bel⟩
            case measure => simp [intOf]; omega
        · obtain rfl : j = 0 := by omega
          have HO := Lib.hid (show decS (-(u : Int)) = ⟨#[45]⟩ ++ out by rw [HD.out, ← Hj.out, mkL_zero])
          have hso : out.size ≤ 9223372036854775806 := by omega
          go_wp2_with fail
          go_ret
          exact ⟨by rw [HO.out]; rfl, bel⟩
    · obtain ⟨u, rfl⟩ : ∃ u : Nat, n = (u : Int) := ⟨n.toNat, by omega⟩
      have hu : 0 < u := by omega
      have HD := Lib.hid (decS_pos u hu)
      obtain ⟨hn1, hn2⟩ := hn
      have h0b : ((u : Int) == 0) = false := beq_eq_false_iff_ne.2 h0
      have hnb : decide ((u : Int) < 0) = false := decide_eq_false hneg
      clear h0
      go_enter Tryz.func89, Tryz.ntmps89
      go_wp2_with fail
      go_loopw [0, 4] (fun s0 s4 wr => ∃ (j : Nat) (out : ByteArray), s0 = .int .i64 (j : Int) ∧ s4 = .string out ∧ mkL j out = mkL u ⟨#[]⟩ ∧ out.size + j ≤ u ∧ (out.size = 0 ∨ out.size + j ≤ u / 10 + 1) ∧ Below w.heap.size w wr) (fun s0 _ _ => (intOf s0).natAbs)
      case atStart => exact ⟨u, ⟨#[]⟩, rfl, rfl, rfl, by show 0 + _ ≤ _; omega, .inl rfl, Below.refl _ _⟩
      case round =>
        obtain ⟨j, out, rfl, rfl, hm, hs, hs2, hbr⟩ := hrel
        have Hj := Lib.hid hm
        clear hm
        by_cases hj : 0 < j
        · have hj0 : ((j : Int) != 0) = true := bne_iff_ne.2 (by omega)
          have hj2 : (0 : Int) ≤ j := by omega
          have hj3 : (j : Int) ≤ 9223372036854775807 := by omega
          have hr9 : j % 10 < 10 := by omega
          have hd1 : (digit j).size = 1 := rfl
          have Hn := Lib.hid (show mkL (j / 10) (digit j ++ out) = mkL u ⟨#[]⟩ by rw [← Hj.out, mkL_pos j out hj])
          have Hz := Lib.hid (show (digit j ++ out).size + j / 10 ≤ u ∧ ((digit j ++ out).size = 0 ∨ (digit j ++ out).size + j / 10 ≤ u / 10 + 1) by rw [ByteArray.size_append, hd1]; omega)
          have hcv := figure_text wr j (j % 10) rfl
          rw [show ((j % 10 : Nat) : Int) = (j : Int) % 10 from by omega] at hcv
          have hso : out.size ≤ 9223372036854775806 := by omega
          have hge : ¬ (j : Int) % 10 < 0 := by omega
          clear hs2
          go_wp2_with fail
          refine (c_spec_l01Figure (j % 10) _ hr9).mono ?_
          rintro e w9 ⟨rfl, rfl⟩
          go_wp2_with fail
          go_roundw
          case rel => exact ⟨j / 10, digit j ++ out, by go_num, rfl, Hn.out, Hz.out.1, Hz.out.2, bel⟩
          case measure => simp [intOf]; omega
        · obtain rfl : j = 0 := by omega
          have HO := Lib.hid (show decS (u : Int) = out by rw [HD.out, ← Hj.out, mkL_zero])
          go_wp2_with fail
          go_ret
          exact ⟨by rw [HO.out]; rfl, bel⟩
end Go.Proofs.YtffelpdefjkeaaaGreatDoor
namespace Go.Proofs.YtffelpdefjkeaaaGreatDoor
open Go.RowKit Go.Lib
def figB (c : UInt8) : Prop := 48 ≤ c.toNat ∧ c.toNat ≤ 57
def valL (acc : Nat) (l : List UInt8) : Nat := l.foldl (fun a c => a * 10 + (c.toNat - 48)) acc
theorem valL_nil (acc : Nat) : valL acc [] = acc := by unfold valL; rw [List.foldl_nil]
theorem valL_cons (acc : Nat) (c : UInt8) (r : List UInt8) : valL acc (c :: r) = valL (acc * 10 + (c.toNat - 48)) r := by unfold valL; rw [List.foldl_cons]
theorem valL_ge (l : List UInt8) (acc : Nat) : acc ≤ valL acc l := by
  induction l generalizing acc with
  | nil => rw [valL_nil]; exact Nat.le_refl _
  | cons c r ih =>
    have := ih (acc * 10 + (c.toNat - 48))
    rw [valL_cons]
    omega
theorem valL_app (l m : List UInt8) (acc : Nat) : valL acc (l ++ m) = valL (valL acc l) m := by unfold valL; rw [List.foldl_append]
theorem parse_figs (l : List UInt8) (acc : Nat) (hd : ∀ c ∈ l, figB c) (h : acc < 18446744073709551616) : parseUint10 acc l = if valL acc l < 18446744073709551616 then .ok (valL acc l) else .range := by
  induction l generalizing acc with
  | nil => rw [valL_nil, if_pos h, parseUint10]
  | cons c r ih =>
    have hc := hd c (by simp)
    unfold figB at hc
    have hge := valL_ge r (acc * 10 + (c.toNat - 48))
    rw [valL_cons, parseUint10, if_pos hc]
    by_cases h1 : 1844674407370955162 ≤ acc
    · rw [if_pos h1, if_neg (by omega)]
    · rw [if_neg h1]
      by_cases h2 : 18446744073709551616 ≤ acc * 10 + (c.toNat - 48)
      · rw [if_pos h2, if_neg (by omega)]
      · rw [if_neg h2]
        exact ih _ (fun x hx => hd x (by simp [hx])) (by omega)
theorem ofNat_fig {d : Nat} (h : d < 10) : (UInt8.ofNat (48 + d)).toNat = 48 + d := by
  rw [UInt8.toNat_ofNat']
  omega
theorem dec_figs (u : Nat) : ∀ c ∈ decDigits u, figB c := by
  induction u using Nat.strongRecOn with
  | ind u ih =>
    intro c hc
    rw [decDigits] at hc
    by_cases h : u < 10
    · rw [dif_pos h] at hc
      rw [List.mem_singleton] at hc
      subst hc
      unfold figB
      rw [ofNat_fig h]
      omega
    · rw [dif_neg h] at hc
      rcases List.mem_append.1 hc with hc | hc
      · exact ih (u / 10) (by omega) c hc
      · rw [List.mem_singleton] at hc
        subst hc
        unfold figB
        rw [ofNat_fig (Nat.mod_lt _ (by decide))]
        omega
theorem dec_val (u : Nat) : valL 0 (decDigits u) = u := by
  induction u using Nat.strongRecOn with
  | ind u ih =>
    rw [decDigits]
    by_cases h : u < 10
    · rw [dif_pos h]
      rw [valL_cons, valL_nil, ofNat_fig h]
      omega
    · rw [dif_neg h, valL_app, ih (u / 10) (by omega)]
      rw [valL_cons, valL_nil, ofNat_fig (Nat.mod_lt _ (by decide))]
      omega
theorem val_pos {c : UInt8} {r : List UInt8} (h : figB c) (h0 : c.toNat ≠ 48) : 1 ≤ valL 0 (c :: r) := by
  have := valL_ge r (0 * 10 + (c.toNat - 48))
  unfold figB at h
  rw [valL_cons]
  omega
/-- Figures without a needless 0 ahead are what is told of their number. -/
theorem dec_canon : ∀ (n : Nat) (l : List UInt8), l.length = n → l ≠ [] → (∀ c ∈ l, figB c) → (∀ c r, l = c :: r → r ≠ [] → c.toNat ≠ 48) → decDigits (valL 0 l) = l
  | 0, l, hn, h0, _, _ => absurd (List.eq_nil_of_length_eq_zero hn) h0
  | n + 1, l, hn, h0, hd, hz => by
    have hl := List.dropLast_concat_getLast h0
    obtain ⟨r, hr⟩ : ∃ r, r = l.dropLast := ⟨_, rfl⟩
    obtain ⟨c, hc⟩ : ∃ c, c = l.getLast h0 := ⟨_, rfl⟩
    rw [← hr, ← hc] at hl
    subst hl
    clear hr hc
    have hcf := hd c (by simp)
    unfold figB at hcf
    rw [valL_app, valL_cons, valL_nil]
    have hback : UInt8.ofNat (48 + (c.toNat - 48)) = c := by
      apply UInt8.toNat_inj.1
      rw [ofNat_fig (by omega)]
      omega
    rcases r with _ | ⟨x, r⟩
    · rw [valL_nil, decDigits, dif_pos (by omega)]
      simp only [List.nil_append]
      rw [show 0 * 10 + (c.toNat - 48) = c.toNat - 48 by omega, hback]
    · have hx := hz x (r ++ [c]) rfl (by simp)
      have hp := val_pos (r := r) (hd x (by simp)) hx
      have ih := dec_canon n (x :: r) (by simp at hn ⊢; omega) (by simp) (fun y hy => hd y (by simp at hy ⊢; rcases hy with h | h; exact .inl h; exact .inr (.inl h))) (fun y q e hq => by
        simp only [List.cons.injEq] at e
        obtain ⟨rfl, rfl⟩ := e
        exact hx)
      obtain ⟨v, hv⟩ : ∃ v, v = valL 0 (x :: r) := ⟨_, rfl⟩
      rw [← hv] at ih hp ⊢
      rw [decDigits, dif_neg (by omega), show (v * 10 + (c.toNat - 48)) / 10 = v by omega, show (v * 10 + (c.toNat - 48)) % 10 = c.toNat - 48 by omega, ih, hback]
end Go.Proofs.YtffelpdefjkeaaaGreatDoor
namespace Go.Proofs.YtffelpdefjkeaaaGreatDoor
open Go.RowKit Go.Lib
def figI (x : Int) : Bool := decide (48 ≤ x) && decide (x ≤ 57)
/-- The place behind the figures that stand from j on. -/
def digF (s : ByteArray) : Nat → Nat → Nat
  | 0, j => j
  | k + 1, j => if j < s.size then (if figI (byteI s j) = true then digF s k (j + 1) else j) else j
theorem digF_fuel (s : ByteArray) : ∀ (k l j : Nat), s.size - j ≤ k → s.size - j ≤ l → digF s k j = digF s l j
  | 0, 0, _, _, _ => rfl
  | 0, l + 1, j, h, _ => by unfold digF; rw [if_neg (by omega)]
  | k + 1, 0, j, _, h => by unfold digF; rw [if_neg (by omega)]
  | k + 1, l + 1, j, h1, h2 => by
    unfold digF
    split
    · split
      · exact digF_fuel s k l _ (by omega) (by omega)
      · rfl
    · rfl
def digE (s : ByteArray) (j : Nat) : Nat := digF s (s.size - j) j
theorem digE_end {s : ByteArray} {j : Nat} (h : ¬ j < s.size) : digE s j = j := by
  unfold digE
  rw [show s.size - j = 0 by omega]
  rfl
theorem digE_at {s : ByteArray} {j : Nat} (h : j < s.size) : digE s j = if figI (byteI s j) = true then digE s (j + 1) else j := by
  unfold digE
  obtain ⟨k, hk⟩ : ∃ k, s.size - j = k + 1 := ⟨s.size - j - 1, by omega⟩
  rw [hk, digF, if_pos h]
  split
  · exact digF_fuel s _ _ _ (by omega) (by omega)
  · rfl
theorem digF_le (s : ByteArray) : ∀ (k j : Nat), j ≤ digF s k j ∧ (j ≤ s.size → digF s k j ≤ s.size)
  | 0, _ => ⟨Nat.le_refl _, fun h => h⟩
  | k + 1, j => by
    unfold digF
    split
    · split
      · have := digF_le s k (j + 1)
        omega
      · omega
    · omega
theorem digE_le (s : ByteArray) (j : Nat) : j ≤ digE s j ∧ (j ≤ s.size → digE s j ≤ s.size) := digF_le s _ _
theorem digF_figs (s : ByteArray) : ∀ (k j t : Nat), j ≤ t → t < digF s k j → figI (byteI s t) = true ∧ t < s.size
  | 0, j, t, h1, h2 => by unfold digF at h2; omega
  | k + 1, j, t, h1, h2 => by
    unfold digF at h2
    split at h2
    · split at h2
      · rename_i hj hf
        rcases Nat.lt_or_ge j t with h | h
        · exact digF_figs s k (j + 1) t (by omega) h2
        · obtain rfl : t = j := by omega
          exact ⟨hf, hj⟩
      · omega
    · omega
theorem digE_figs {s : ByteArray} {j t : Nat} (h1 : j ≤ t) (h2 : t < digE s j) : figI (byteI s t) = true ∧ t < s.size := digF_figs s _ j t h1 h2
/-- The number of the bytes from a on, ahead of e. -/
def numB (s : ByteArray) (a e : Nat) : Nat := valL 0 (s.extract a e).data.toList
/-- The whole number whose figures stand from a on, and the place behind it; (0, -1): there is none. -/
def wholeA (s : ByteArray) (neg : Bool) (a : Nat) : Int × Int :=
  if digE s a = a ∨ (byteI s a = 48 ∧ a + 1 < digE s a) ∨ (digE s a < s.size ∧ (byteI s (digE s a) = 46 ∨ byteI s (digE s a) = 101 ∨ byteI s (digE s a) = 69)) then (0, -1)
  else if neg = true then (if numB s a (digE s a) ≤ 9223372036854775808 then (-(numB s a (digE s a) : Int), (digE s a : Int)) else (0, -1))
  else (if numB s a (digE s a) ≤ 9223372036854775807 then ((numB s a (digE s a) : Int), (digE s a : Int)) else (0, -1))
/-- The whole number at place i and the place behind it; (0, -1): there is none. -/
def wholeB (s : ByteArray) (i : Nat) : Int × Int :=
  if i < s.size then (if byteI s i = 45 then wholeA s true (i + 1) else wholeA s false i) else (0, -1)
theorem extract_get (s : ByteArray) (a e k : Nat) (he : e ≤ s.size) (hk : a + k < e) : (s.extract a e).data.toList[k]? = some (s.get! (a + k)) := by
  have h1 : (s.extract a e).data.toList = (s.data.toList.drop a).take (e - a) := by
    rw [ByteArray.data_extract, Array.toList_extract, List.extract_eq_take_drop]
  rw [h1, List.getElem?_take, if_pos (by omega), List.getElem?_drop]
  have h2 : a + k < s.data.toList.length := by rw [Array.length_toList]; show a + k < s.size; omega
  rw [List.getElem?_eq_getElem h2]
  congr 1
  rw [Array.getElem_toList]
  have h3 : a + k < s.size := by omega
  show s.data[a + k] = s.data[a + k]!
  rw [getElem!_pos s.data (a + k) h3]
theorem extract_len (s : ByteArray) (a e : Nat) (he : e ≤ s.size) : (s.extract a e).data.toList.length = e - a := by
  rw [Array.length_toList]
  show (s.extract a e).size = e - a
  rw [ByteArray.size_extract]
  omega
theorem fig_of {s : ByteArray} {t : Nat} (h : figI (byteI s t) = true) : figB (s.get! t) := by
  unfold figI byteI at h
  simp at h
  unfold figB
  omega
theorem figs_all {s : ByteArray} {a e : Nat} (he : e ≤ s.size) (h : ∀ t, a ≤ t → t < e → figI (byteI s t) = true) : ∀ c ∈ (s.extract a e).data.toList, figB c := by
  intro c hc
  obtain ⟨k, hk⟩ := List.mem_iff_getElem?.1 hc
  have hl : k < e - a := by
    have := (List.getElem?_eq_some_iff.1 hk).1
    rwa [extract_len s a e he] at this
  rw [extract_get s a e k he (by omega)] at hk
  injection hk with hk
  subst hk
  exact fig_of (h _ (by omega) (by omega))
theorem atoi_figs {l : List UInt8} (h0 : l ≠ []) (hf : ∀ c ∈ l, figB c) : atoiAll l = if valL 0 l ≤ 9223372036854775807 then .ok (valL 0 l : Int) else .range := by
  rcases l with _ | ⟨c, r⟩
  · exact absurd rfl h0
  · have hc := hf c (by simp)
    unfold figB at hc
    rw [atoiAll_plain c r (by omega) (by omega)]
    unfold parseMag
    rw [if_neg (by simp), parse_figs _ 0 hf (by omega)]
    obtain ⟨u, hu⟩ : ∃ u, u = valL 0 (c :: r) := ⟨_, rfl⟩
    rw [← hu]
    by_cases h1 : u < 18446744073709551616
    · rw [if_pos h1]
      show (if 9223372036854775808 ≤ u then NumEnd.range else NumEnd.ok (u : Int)) = _
      by_cases h2 : u ≤ 9223372036854775807
      · rw [if_neg (by omega), if_pos h2]
      · rw [if_pos (by omega), if_neg h2]
    · rw [if_neg h1, if_neg (by omega)]
      rfl
theorem atoi_minus {l : List UInt8} (h0 : l ≠ []) (hf : ∀ c ∈ l, figB c) : atoiAll (45 :: l) = if valL 0 l ≤ 9223372036854775808 then .ok (-(valL 0 l : Int)) else .range := by
  rw [atoiAll_minus]
  unfold parseMag
  rw [if_neg h0, parse_figs _ 0 hf (by omega)]
  obtain ⟨u, hu⟩ : ∃ u, u = valL 0 l := ⟨_, rfl⟩
  rw [← hu]
  by_cases h1 : u < 18446744073709551616
  · rw [if_pos h1]
    show (if 9223372036854775808 < u then NumEnd.range else NumEnd.ok (-(u : Int))) = _
    by_cases h2 : u ≤ 9223372036854775808
    · rw [if_neg (by omega), if_pos h2]
    · rw [if_pos (by omega), if_neg h2]
  · rw [if_neg h1, if_neg (by omega)]
    rfl
theorem wholeB_at {s : ByteArray} {i a : Nat} (h : i < s.size) (ha : a = if byteI s i = 45 then i + 1 else i) : wholeB s i = wholeA s (decide (byteI s i = 45)) a := by
  unfold wholeB
  rw [if_pos h]
  by_cases h45 : byteI s i = 45
  · rw [if_pos h45] at ha ⊢
    rw [decide_eq_true h45, ha]
  · rw [if_neg h45] at ha ⊢
    rw [decide_eq_false h45, ha]
theorem wholeA_no {s : ByteArray} {neg : Bool} {a : Nat} (h : digE s a = a ∨ (byteI s a = 48 ∧ a + 1 < digE s a) ∨ (digE s a < s.size ∧ (byteI s (digE s a) = 46 ∨ byteI s (digE s a) = 101 ∨ byteI s (digE s a) = 69))) : wholeA s neg a = (0, -1) := if_pos h
theorem extract_cons {s : ByteArray} {i e : Nat} (hi : i < e) (he : e ≤ s.size) : (s.extract i e).data.toList = s.get! i :: (s.extract (i + 1) e).data.toList := by
  apply List.ext_getElem?
  intro k
  rcases k with _ | k
  · rw [extract_get s i e 0 he (by omega)]; rfl
  · rw [List.getElem?_cons_succ]
    by_cases hk : i + 1 + k < e
    · rw [extract_get s i e (k + 1) he (by omega), extract_get s (i + 1) e k he hk]
      congr 2
      omega
    · rw [List.getElem?_eq_none (by rw [extract_len s i e he]; omega), List.getElem?_eq_none (by rw [extract_len s (i + 1) e he]; omega)]
/-- What Atoi says of the number's text. -/
theorem whole_atoi {s : ByteArray} {i a : Nat} (hi : i < s.size) (ha : a = if byteI s i = 45 then i + 1 else i) (h : ¬ (digE s a = a ∨ (byteI s a = 48 ∧ a + 1 < digE s a) ∨ (digE s a < s.size ∧ (byteI s (digE s a) = 46 ∨ byteI s (digE s a) = 101 ∨ byteI s (digE s a) = 69)))) :
    (∃ v, atoiAll (s.extract i (digE s a)).data.toList = .ok v ∧ wholeB s i = (v, (digE s a : Int))) ∨ (atoiAll (s.extract i (digE s a)).data.toList = .range ∧ wholeB s i = (0, -1)) := by
  have hae := digE_le s a
  have has : a ≤ s.size := by rw [ha]; split <;> omega
  have hes := hae.2 has
  have hne : a < digE s a := by have := hae.1; have := not_or.1 h; omega
  have hf := figs_all (s := s) (a := a) (e := digE s a) hes (fun t h1 h2 => (digE_figs h1 h2).1)
  have hl := extract_len s a (digE s a) hes
  have h0 : (s.extract a (digE s a)).data.toList ≠ [] := by intro hn; rw [hn] at hl; simp at hl; omega
  rw [wholeB_at hi ha]
  unfold wholeA
  rw [if_neg h]
  by_cases h45 : byteI s i = 45
  · rw [if_pos h45] at ha
    rw [decide_eq_true h45, if_pos rfl]
    have hc := extract_cons (s := s) (i := i) (e := digE s a) (by omega) hes
    have hb : s.get! i = 45 := by
      apply UInt8.toNat_inj.1
      have h9 : (45 : UInt8).toNat = 45 := rfl
      unfold byteI at h45
      rw [h9]
      omega
    rw [hc, hb, ← ha, atoi_minus h0 hf]
    unfold numB
    by_cases hv : valL 0 (s.extract a (digE s a)).data.toList ≤ 9223372036854775808
    · rw [if_pos hv, if_pos hv]; exact .inl ⟨_, rfl, rfl⟩
    · rw [if_neg hv, if_neg hv]; exact .inr ⟨rfl, rfl⟩
  · rw [if_neg h45] at ha
    rw [decide_eq_false h45, if_neg (by decide)]
    rw [ha] at hf h0 ⊢
    rw [atoi_figs h0 hf]
    unfold numB
    by_cases hv : valL 0 (s.extract i (digE s i)).data.toList ≤ 9223372036854775807
    · rw [if_pos hv, if_pos hv]; exact .inl ⟨_, rfl, rfl⟩
    · rw [if_neg hv, if_neg hv]; exact .inr ⟨rfl, rfl⟩
theorem toList_some {s : ByteArray} (h : 0 < s.size) : s.toList.isEmpty = false := by
  rw [Lib.toList_data]
  rcases h1 : s.data.toList with _ | ⟨x, l⟩
  · have h2 : s.data.toList.length = 0 := by rw [h1]; rfl
    rw [Array.length_toList] at h2
    have h3 : s.size = s.data.size := rfl
    omega
  · rfl
end Go.Proofs.YtffelpdefjkeaaaGreatDoor
namespace Go.Proofs.YtffelpdefjkeaaaGreatDoor
open Go.Shelf
def laysAtoi_ren : Go.Shelf.Ren := ⟨fun | 172 => 128 | 244 => 146 | 245 => 147 | 247 => 156 | 279 => 157 | 280 => 158 | 281 => 159 | 282 => 160 | 287 => 173 | 316 => 174 | 171 => 116 | 205 => 175 | 321 => 187 | 322 => 188 | 243 => 139 | 246 => 152 | 283 => 163 | 284 => 164 | 285 => 165 | 286 => 166 | 129 => 177 | 317 => 176 | 318 => 178 | 319 => 179 | 320 => 180 | 337 => 189 | 338 => 190 | n => n, fun | 9 => 9 | 3 => 3 | 75 => 122 | 76 => 123 | 4 => 4 | 5 => 5 | 167 => 141 | 37 => 37 | 0 => 0 | 85 => 142 | 2 => 2 | 168 => 144 | 53 => 150 | 175 => 162 | 46 => 126 | 210 => 165 | 127 => 173 | 145 => 180 | 143 => 178 | 21 => 21 | 171 => 149 | 173 => 153 | 212 => 169 | 51 => 170 | 20 => 20 | 213 => 171 | 232 => 189 | 233 => 190 | 80 => 159 | n => n, fun | 15 => 3 | 16 => 4 | 17 => 5 | 18 => 7 | 19 => 8 | n => n⟩
theorem laysAtoi : Go.Proofs.LaysC.n172 Tryz.prog laysAtoi_ren := {
  mixed := by kernel_rfl
  f129 := Tryz.func177.trans (congrArg some (by kernel_rfl))
  f171 := Tryz.func116.trans (congrArg some (by kernel_rfl))
  f172 := Tryz.func128.trans (congrArg some (by kernel_rfl))
  f205 := Tryz.func175.trans (congrArg some (by kernel_rfl))
  f243 := Tryz.func139.trans (congrArg some (by kernel_rfl))
  f244 := Tryz.func146.trans (congrArg some (by kernel_rfl))
  f245 := Tryz.func147.trans (congrArg some (by kernel_rfl))
  f246 := Tryz.func152.trans (congrArg some (by kernel_rfl))
  f247 := Tryz.func156.trans (congrArg some (by kernel_rfl))
  f279 := Tryz.func157.trans (congrArg some (by kernel_rfl))
  f280 := Tryz.func158.trans (congrArg some (by kernel_rfl))
  f281 := Tryz.func159.trans (congrArg some (by kernel_rfl))
  f282 := Tryz.func160.trans (congrArg some (by kernel_rfl))
  f283 := Tryz.func163.trans (congrArg some (by kernel_rfl))
  f284 := Tryz.func164.trans (congrArg some (by kernel_rfl))
  f285 := Tryz.func165.trans (congrArg some (by kernel_rfl))
  f286 := Tryz.func166.trans (congrArg some (by kernel_rfl))
  f287 := Tryz.func173.trans (congrArg some (by kernel_rfl))
  f316 := Tryz.func174.trans (congrArg some (by kernel_rfl))
  f317 := Tryz.func176.trans (congrArg some (by kernel_rfl))
  f318 := Tryz.func178.trans (congrArg some (by kernel_rfl))
  f319 := Tryz.func179.trans (congrArg some (by kernel_rfl))
  f320 := Tryz.func180.trans (congrArg some (by kernel_rfl))
  f321 := Tryz.func187.trans (congrArg some (by kernel_rfl))
  f322 := Tryz.func188.trans (congrArg some (by kernel_rfl))
  f337 := Tryz.func189.trans (congrArg some (by kernel_rfl))
  f338 := Tryz.func190.trans (congrArg some (by kernel_rfl))
  t0 := Tryz.underlying0
  a0 := Tryz.isAgg0
  z0 := Tryz.sizeOf0
  v0 := Tryz.zeroValue0
  t2 := Tryz.underlying2
  a2 := Tryz.isAgg2
  z2 := Tryz.sizeOf2
  v2 := Tryz.zeroValue2
  t3 := Tryz.underlying3
  a3 := Tryz.isAgg3
  z3 := Tryz.sizeOf3
  v3 := Tryz.zeroValue3
  t4 := Tryz.underlying4
  a4 := Tryz.isAgg4
  z4 := Tryz.sizeOf4
  v4 := Tryz.zeroValue4
  t5 := Tryz.underlying5
  a5 := Tryz.isAgg5
  z5 := Tryz.sizeOf5
  v5 := Tryz.zeroValue5
  t9 := Tryz.underlying9
  a9 := Tryz.isAgg9
  z9 := Tryz.sizeOf9
  v9 := Tryz.zeroValue9
  t20 := Tryz.underlying20
  a20 := Tryz.isAgg20
  z20 := Tryz.sizeOf20
  v20 := Tryz.zeroValue20
  t21 := Tryz.underlying21
  a21 := Tryz.isAgg21
  z21 := Tryz.sizeOf21
  v21 := Tryz.zeroValue21
  t37 := Tryz.underlying37
  a37 := Tryz.isAgg37
  z37 := Tryz.sizeOf37
  v37 := Tryz.zeroValue37
  t46 := Tryz.underlying126
  a46 := Tryz.isAgg126
  z46 := Tryz.sizeOf126
  v46 := Tryz.zeroValue126
  t51 := Tryz.underlying170
  a51 := Tryz.isAgg170
  z51 := Tryz.sizeOf170
  v51 := Tryz.zeroValue170
  t53 := Tryz.underlying150
  a53 := Tryz.isAgg150
  z53 := Tryz.sizeOf150
  v53 := Tryz.zeroValue150
  t75 := Tryz.underlying122
  a75 := Tryz.isAgg122
  z75 := Tryz.sizeOf122
  v75 := Tryz.zeroValue122
  t76 := Tryz.underlying123
  a76 := Tryz.isAgg123
  z76 := Tryz.sizeOf123
  v76 := Tryz.zeroValue123
  t85 := Tryz.underlying142
  a85 := Tryz.isAgg142
  z85 := Tryz.sizeOf142
  v85 := Tryz.zeroValue142
  t127 := Tryz.underlying173
  a127 := Tryz.isAgg173
  z127 := Tryz.sizeOf173
  v127 := Tryz.zeroValue173
  t143 := Tryz.underlying178
  a143 := Tryz.isAgg178
  z143 := Tryz.sizeOf178
  v143 := Tryz.zeroValue178
  t145 := Tryz.underlying180
  a145 := Tryz.isAgg180
  z145 := Tryz.sizeOf180
  v145 := Tryz.zeroValue180
  t167 := Tryz.underlying141
  a167 := Tryz.isAgg141
  z167 := Tryz.sizeOf141
  v167 := Tryz.zeroValue141
  t168 := Tryz.underlying144
  a168 := Tryz.isAgg144
  z168 := Tryz.sizeOf144
  v168 := Tryz.zeroValue144
  t171 := Tryz.underlying149
  a171 := Tryz.isAgg149
  z171 := Tryz.sizeOf149
  v171 := Tryz.zeroValue149
  t173 := Tryz.underlying153
  a173 := Tryz.isAgg153
  z173 := Tryz.sizeOf153
  v173 := Tryz.zeroValue153
  t175 := Tryz.underlying162
  a175 := Tryz.isAgg162
  z175 := Tryz.sizeOf162
  v175 := Tryz.zeroValue162
  t210 := Tryz.underlying165
  a210 := Tryz.isAgg165
  z210 := Tryz.sizeOf165
  v210 := Tryz.zeroValue165
  t212 := Tryz.underlying169
  a212 := Tryz.isAgg169
  z212 := Tryz.sizeOf169
  v212 := Tryz.zeroValue169
  t213 := Tryz.underlying171
  a213 := Tryz.isAgg171
  z213 := Tryz.sizeOf171
  t232 := Tryz.underlying189
  a232 := Tryz.isAgg189
  z232 := Tryz.sizeOf189
  v232 := Tryz.zeroValue189
  t233 := Tryz.underlying190
  a233 := Tryz.isAgg190
  z233 := Tryz.sizeOf190
  v233 := Tryz.zeroValue190
  g15 := by kernel_rfl
  g16 := by kernel_rfl
  g17 := by kernel_rfl
  g18 := by kernel_rfl
  g19 := by kernel_rfl
  t80 := Tryz.underlying159
  a80 := Tryz.isAgg159
  z80 := Tryz.sizeOf159
  v80 := Tryz.zeroValue159
  i0 := by kernel_rfl
  i2 := by kernel_rfl
  i3 := by kernel_rfl
  i4 := by kernel_rfl
  i5 := by kernel_rfl
  i9 := by kernel_rfl
  i20 := by kernel_rfl
  i21 := by kernel_rfl
  i37 := by kernel_rfl
  i46 := by kernel_rfl
  i51 := by kernel_rfl
  i53 := by kernel_rfl
  i75 := by kernel_rfl
  i76 := by kernel_rfl
  i80 := by kernel_rfl
  i85 := by kernel_rfl
  i127 := by kernel_rfl
  i143 := by kernel_rfl
  i145 := by kernel_rfl
  i167 := by kernel_rfl
  i168 := by kernel_rfl
  i171 := by kernel_rfl
  i173 := by kernel_rfl
  i175 := by kernel_rfl
  i210 := by kernel_rfl
  i212 := by kernel_rfl
  i232 := by kernel_rfl
  i233 := by kernel_rfl
  m15 := by kernel_rfl
  m16 := by kernel_rfl
  m17 := by kernel_rfl
  m18 := by kernel_rfl
  m19 := by kernel_rfl
  c0 := by kernel_rfl
  c2 := by kernel_rfl
  c3 := by kernel_rfl
  c4 := by kernel_rfl
  c5 := by kernel_rfl
  c9 := by kernel_rfl
  c20 := by kernel_rfl
  c21 := by kernel_rfl
  c37 := by kernel_rfl
  c46 := by kernel_rfl
  c51 := by kernel_rfl
  c53 := by kernel_rfl
  c75 := by kernel_rfl
  c76 := by kernel_rfl
  c80 := by kernel_rfl
  c85 := by kernel_rfl
  c127 := by kernel_rfl
  c143 := by kernel_rfl
  c145 := by kernel_rfl
  c167 := by kernel_rfl
  c168 := by kernel_rfl
  c171 := by kernel_rfl
  c173 := by kernel_rfl
  c175 := by kernel_rfl
  c210 := by kernel_rfl
  c212 := by kernel_rfl
  c213 := by kernel_rfl
  c232 := by kernel_rfl
  c233 := by kernel_rfl }
end Go.Proofs.YtffelpdefjkeaaaGreatDoor
namespace Go.Proofs.YtffelpdefjkeaaaGreatDoor
open Go.RowKit Go.Lib
/-- strconv.ErrRange holds something that can be told. -/
def ErrR (w : World) : Prop := ∃ ev, w.cell? ⟨laysAtoi_ren.g 16, 0, none⟩ = some ev ∧ (ev = .nilIface ∨ ∃ te pe, ev = .iface te pe)
theorem ErrR.below {w w' : World} (h : ErrR w) (hb : Below w.heap.size w w') : ErrR w' := by
  obtain ⟨ev, h1, h2⟩ := h
  exact ⟨ev, (hb.cell (p := ⟨laysAtoi_ren.g 16, 0, none⟩) (Lib.lt_of_cell h1)).trans h1, h2⟩
theorem c_Atoi_ok (s : ByteArray) (v : Int) (w : World) (hs : s.size ≤ 1048576) (h : Lib.atoiAll s.data.toList = .ok v) :
    Calls Tryz.prog 128 #[.string s] w fun e w' => e = .returned (.tuple #[.int .i64 v, .nilIface]) ∧ Below w.heap.size w w' := by
  have h1 := Any.strconv_Atoi_ok laysAtoi s (by omega) v h w
  change Calls Tryz.prog 128 _ _ _ at h1
  refine h1.mono ?_
  rintro e w' ⟨rfl, hw⟩
  refine ⟨rfl, ?_⟩
  rcases hw with rfl | ⟨t, rfl⟩
  · exact Below.refl _ _
  · exact Lib.bytesWorld_below _ _ _
theorem c_Atoi_range (s : ByteArray) (w : World) (hs : s.size ≤ 1048576) (h : Lib.atoiAll s.data.toList = .range) (hE : ErrR w) :
    Calls Tryz.prog 128 #[.string s] w fun e w' => ∃ x N, e = .returned (.tuple #[.int .i64 x, .iface 144 (.pointer (some ⟨N, 0, none⟩))]) ∧ Below w.heap.size w w' := by
  obtain ⟨ev, h2, h3⟩ := hE
  have h1 := Any.strconv_Atoi_range laysAtoi s (by omega) h ev w h2 h3
  change Calls Tryz.prog 128 _ _ _ at h1
  refine h1.mono ?_
  rintro e w' ⟨N, rfl, -, -, hb⟩
  exact ⟨_, N, rfl, hb⟩
theorem digit_fig (x : Int) : digitB x = figI x := by
  unfold digitB figI
  rw [Bool.eq_iff_iff]
  simp
end Go.Proofs.YtffelpdefjkeaaaGreatDoor
namespace Go.Proofs.YtffelpdefjkeaaaGreatDoor
open Go.RowKit Go.Lib
theorem get_byte (s : ByteArray) (i : Nat) (h : i < s.size) : (s[i]'h).toNat = (s.get! i).toNat := by
  show _ = (s.data[i]!).toNat
  rw [getElem!_pos s.data i h]
  rfl
end Go.Proofs.YtffelpdefjkeaaaGreatDoor
namespace Go.Proofs.YtffelpdefjkeaaaGreatDoor
open Go.RowKit Go.Lib
/-- The place of a byte among '.', 'e', 'E'; -1. -/
def dotI (b : Nat) : Int := if b = 46 then 0 else if b = 101 then 1 else if b = 69 then 2 else -1
set_option maxRecDepth 1000000 in
theorem idx_dot : ∀ i : Fin 256, Lib.indexByte [46, 101, 69] (UInt8.ofNat i.val) = dotI i.val := by decide
theorem c_IndexDot (b : Nat) (hb : b < 256) (w : World) : Calls Tryz.prog 65 #[.string { data := #[46, 101, 69] }, .int .u8 b] w fun e w' => e = .returned (.int .i64 (dotI b)) ∧ w = w' := by
  have h := c_strings_IndexByte { data := #[46, 101, 69] } (UInt8.ofNat b) w
  have e1 : (UInt8.ofNat b).toNat = b := by rw [UInt8.toNat_ofNat']; exact Nat.mod_eq_of_lt hb
  rw [e1] at h
  exact h.mono (fun _ _ h => ⟨h.1.trans (congrArg (fun z => Ending.returned (Value.int .i64 z)) (idx_dot ⟨b, hb⟩)), h.2⟩)
set_option maxHeartbeats 4000000 in
set_option maxRecDepth 20000 in
theorem c_impl_ReadWhole (s : ByteArray) (i : Nat) (w : World) (hs : s.size ≤ 1048576) (hi : i ≤ 1048576) (hE : ErrR w) :
    Calls Tryz.prog 103 #[.string s, .int .i64 i] w fun e w' => e = .returned (.tuple #[.int .i64 (wholeB s i).1, .int .i64 (wholeB s i).2]) ∧ Below w.heap.size w w' := by
  have HE := Lib.hid hE
  clear hE
  by_cases hlt : (i : Int) < s.size
  · have hii : i < s.size := by omega
    have h1 : decide ((s.size : Int) ≤ i) = false := decide_eq_false (by omega)
    have h2 : decide (s.size ≤ i) = false := decide_eq_false (by omega)
    have h3 : decide ((i : Int) < 0) = false := decide_eq_false (by omega)
    have hz0 : (0 : Int) ≤ i := by omega
    obtain ⟨b, hb⟩ : ∃ b : Nat, b = (s.get! i).toNat := ⟨_, rfl⟩
    have hx : (s[i]'hii).toNat = b := by rw [hb]; exact get_byte s i hii
    have hby : byteI s i = b := by unfold byteI; rw [hb]
    obtain ⟨a, ha⟩ : ∃ a, a = if byteI s i = 45 then i + 1 else i := ⟨_, rfl⟩
    have HBy := Lib.hid hby
    have HA := Lib.hid ha
    have hia : i ≤ a ∧ a ≤ i + 1 := by rw [ha]; split <;> omega
    obtain ⟨e0, he0⟩ : ∃ e0, e0 = digE s a := ⟨_, rfl⟩
    have hE0 := digE_le s a
    rw [← he0] at hE0
    have hae : a ≤ e0 := hE0.1
    have hes : e0 ≤ s.size := hE0.2 (by omega)
    have HE0 := Lib.hid he0
    obtain ⟨hia1, hia2⟩ := hia
    clear hb hby ha he0 hE0
    go_enter Tryz.func103, Tryz.ntmps103
    go_upto_if 22 with fail
    go_cut [6] from 19 to 24 (fun s6 wx => s6 = .int .i64 a ∧ wx = w)
    case first =>
      by_cases e45 : (b : Int) = 45
      · have haa : (i : Int) + 1 = a := by have := HA.out; rw [HBy.out, if_pos e45] at this; omega
        obtain rfl : b = 45 := by omega
        go_wp2_with fail
        go_meet
        exact ⟨rfl, rfl⟩
      · have f45 : ((b : Int) == 45) = false := beq_eq_false_iff_ne.2 e45
        have haa : i = a := by have := HA.out; rw [HBy.out, if_neg e45] at this; omega
        have HAA := Lib.hid haa
        clear haa e45
        go_wp2_with fail
        go_meet
        exact ⟨by rw [HAA.out], rfl⟩
    case rest =>
      obtain ⟨rfl, rfl⟩ := hcut
      go_upto_block 0 with fail
      go_cut [6] from 26 to 37 (fun s6 wx => s6 = .int .i64 e0 ∧ wx = wc)
      case first =>
        go_wp2_with fail
        go_loopw [6] (fun s6 wr => ∃ j : Nat, a ≤ j ∧ j ≤ e0 ∧ s6 = .int .i64 j ∧ digE s j = e0 ∧ wr = wc) (fun s6 _ => s.size - (Lib.intOf s6).toNat)
        case atStart => exact ⟨a, Nat.le_refl _, hae, rfl, HE0.out.symm, rfl⟩
        case round =>
          obtain ⟨j, haj, hje, rfl, hdj, rfl⟩ := hrel
          have HJ := Lib.hid hdj
          clear hdj
          by_cases hjl : (j : Int) < s.size
          · have hjj : j < s.size := by omega
            have hj0 : (0 : Int) ≤ j := by omega
            obtain ⟨c, hc⟩ : ∃ c : Nat, c = (s.get! j).toNat := ⟨_, rfl⟩
            have hxj : (s[j]'hjj).toNat = c := by rw [hc]; exact get_byte s j hjj
            have hbj : byteI s j = c := by unfold byteI; rw [hc]
            have HC := Lib.hid hbj
            have HD := Lib.hid (HJ.out.symm.trans (digE_at hjj))
            clear hc hbj
            rcases hf : digitB (c : Int) with _ | _
            · have HF := Lib.hid (show e0 = j by have h9 := HD.out; rw [HC.out, ← digit_fig, hf, if_neg (by decide)] at h9; exact h9)
              go_wp2_with (first | (go_at_call 102; refine (c_impl_isDigit _ _).mono ?_; rintro e w' ⟨rfl, rfl⟩))
              go_meet
              exact ⟨by rw [HF.out], rfl⟩
            · have HF := Lib.hid (show digE s (j + 1) = e0 by have h9 := HD.out; rw [HC.out, ← digit_fig, hf, if_pos rfl] at h9; exact h9.symm)
              have hle := (digE_le s (j + 1)).1
              rw [HF.out] at hle
              go_wp2_with (first | (go_at_call 102; refine (c_impl_isDigit _ _).mono ?_; rintro e w' ⟨rfl, rfl⟩))
              go_roundw
              case rel => exact ⟨j + 1, by omega, hle, by go_num, HF.out, by first | rfl | exact True.intro⟩
              case measure => simp [Lib.intOf]; omega
          · have HF := Lib.hid (show e0 = j by rw [← HJ.out]; exact digE_end (by omega))
            go_wp2_with fail
            go_meet
            exact ⟨by rw [HF.out], rfl⟩
      case rest =>
        obtain ⟨rfl, rfl⟩ := hcut
        by_cases c1 : (e0 : Int) = a
        · have HQ := Lib.hid (show wholeB s i = (0, -1) by rw [wholeB_at hii HA.out]; exact wholeA_no (.inl (by rw [← HE0.out]; omega)))
          have HC1 := Lib.hid c1
          have g1 : ((e0 : Int) == a) = true := beq_iff_eq.2 c1
          clear c1
          go_wp2_with fail
          go_ret2
          exact ⟨by rw [HQ.out]; rfl, Below.refl _ _⟩
        · have g1 : ((e0 : Int) == a) = false := beq_eq_false_iff_ne.2 c1
          have hlt2 : a < e0 := by omega
          have ham : a < s.size := by omega
          have haI : (a : Int) < s.size := by omega
          have ha0 : (0 : Int) ≤ a := by omega
          obtain ⟨ca, hca⟩ : ∃ c : Nat, c = (s.get! a).toNat := ⟨_, rfl⟩
          have hxa : (s[a]'ham).toNat = ca := by rw [hca]; exact get_byte s a ham
          have HCa := Lib.hid (show byteI s a = ca by unfold byteI; rw [hca])
          clear hca c1
          by_cases c2 : (ca : Int) = 48 ∧ (a : Int) + 1 < e0
          · have HQ := Lib.hid (show wholeB s i = (0, -1) by rw [wholeB_at hii HA.out]; exact wholeA_no (.inr (.inl ⟨by rw [HCa.out]; exact c2.1, by rw [← HE0.out]; omega⟩)))
            obtain ⟨c21, c22⟩ := c2
            obtain rfl : ca = 48 := by omega
            go_wp2_with fail
            go_ret2
            exact ⟨by rw [HQ.out]; rfl, Below.refl _ _⟩
          · have tail : ∀ P : Prop, (((ca : Int) == 48) = false → P) → (ca = 48 → decide ((a : Int) + 1 < e0) = false → P) → P := by
              intro P k1 k2
              by_cases c : (ca : Int) = 48
              · exact k2 (by omega) (decide_eq_false (fun h => c2 ⟨c, h⟩))
              · exact k1 (beq_eq_false_iff_ne.2 c)
            have HC2 := Lib.hid c2
            clear c2
            by_cases c3 : (e0 : Int) < s.size
            · have hej : e0 < s.size := by omega
              have he0 : (0 : Int) ≤ e0 := by omega
              obtain ⟨ce, hce⟩ : ∃ c : Nat, c = (s.get! e0).toNat := ⟨_, rfl⟩
              have hxe : (s[e0]'hej).toNat = ce := by rw [hce]; exact get_byte s e0 hej
              have HCe := Lib.hid (show byteI s e0 = ce by unfold byteI; rw [hce])
              have hc256 : ce < 256 := by have := (s.get! e0).toNat_lt; omega
              clear hce
              by_cases c4 : ce = 46 ∨ ce = 101 ∨ ce = 69
              · have HQ := Lib.hid (show wholeB s i = (0, -1) by
                  rw [wholeB_at hii HA.out]
                  refine wholeA_no (.inr (.inr ⟨by rw [← HE0.out]; exact hej, ?_⟩))
                  rw [← HE0.out, HCe.out]
                  omega)
                have hd0 : ¬ dotI ce < 0 := by unfold dotI; rcases c4 with rfl | rfl | rfl <;> decide
                obtain ⟨dv, hdv⟩ : ∃ d, d = dotI ce := ⟨_, rfl⟩
                have hd1 : 0 ≤ dv := by omega
                have HDv := Lib.hid hdv
                clear hd0 hdv c4
                refine tail _ (fun t1 => ?_) (fun t1 t2 => ?_)
                all_goals
                  clear tail
                  (try subst t1)
                  go_wp2_with (go_at_call 65; refine (c_IndexDot ce hc256 _).mono ?_; rintro e w9 ⟨rfl, rfl⟩; rw [← HDv.out])
                  go_ret2
                  exact ⟨by rw [HQ.out]; rfl, Below.refl _ _⟩
              · have HDv := Lib.hid (show dotI ce = -1 by unfold dotI; rw [if_neg (by omega), if_neg (by omega), if_neg (by omega)])
                have HW := Lib.hid (whole_atoi hii HA.out (by
                  rw [← HE0.out, HCa.out, HCe.out]
                  rintro (h | h | h)
                  · omega
                  · exact HC2.out ⟨h.1, by omega⟩
                  · omega))
                rw [← HE0.out] at HW
                have hie : i ≤ e0 := by omega
                have hieI : (i : Int) ≤ e0 := by omega
                have hesI : (e0 : Int) ≤ s.size := by omega
                clear c4
                refine tail _ (fun t1 => ?_) (fun t1 t2 => ?_)
                all_goals
                  clear tail
                  (try subst t1)
                  rcases HW.out with ⟨v, hv1, hv2⟩ | ⟨hv1, hv2⟩
                  · have HV := Lib.hid hv1
                    have HQ := Lib.hid hv2
                    clear hv1 hv2
                    go_wp2_with (first | (go_at_call 65; refine (c_IndexDot ce hc256 _).mono ?_; rintro e w9 ⟨rfl, rfl⟩; rw [HDv.out]) | (go_at_call 128; refine (c_Atoi_ok _ v _ (by simp; omega) HV.out).mono ?_; rintro e w9 ⟨rfl, hb9⟩))
                    go_ret2
                    exact ⟨by rw [HQ.out]; rfl, bel⟩
                  · have HV := Lib.hid hv1
                    have HQ := Lib.hid hv2
                    clear hv1 hv2
                    go_wp2_with (first | (go_at_call 65; refine (c_IndexDot ce hc256 _).mono ?_; rintro e w9 ⟨rfl, rfl⟩; rw [HDv.out]) | (go_at_call 128; refine (c_Atoi_range _ _ (by simp; omega) HV.out HE.out).mono ?_; rintro e w9 ⟨xv, nv, rfl, hb9⟩))
                    go_ret2
                    exact ⟨by rw [HQ.out]; rfl, bel⟩
            · have heq : e0 = s.size := by omega
              have HW := Lib.hid (whole_atoi hii HA.out (by
                rw [← HE0.out, HCa.out]
                rintro (h | h | h)
                · omega
                · exact HC2.out ⟨h.1, by omega⟩
                · omega))
              rw [← HE0.out] at HW
              have hie : i ≤ e0 := by omega
              have hieI : (i : Int) ≤ e0 := by omega
              have hesI : (e0 : Int) ≤ s.size := by omega
              have hsz3 : decide ((e0 : Int) < s.size) = false := decide_eq_false c3
              have hsz4 : decide (e0 < s.size) = false := decide_eq_false (by omega)
              clear heq c3
              refine tail _ (fun t1 => ?_) (fun t1 t2 => ?_)
              all_goals
                clear tail
                (try subst t1)
                rcases HW.out with ⟨v, hv1, hv2⟩ | ⟨hv1, hv2⟩
                · have HV := Lib.hid hv1
                  have HQ := Lib.hid hv2
                  clear hv1 hv2
                  go_wp2_with ((go_at_call 128; refine (c_Atoi_ok _ v _ (by simp; omega) HV.out).mono ?_; rintro e w9 ⟨rfl, hb9⟩))
                  go_ret2
                  exact ⟨by rw [HQ.out]; rfl, bel⟩
                · have HV := Lib.hid hv1
                  have HQ := Lib.hid hv2
                  clear hv1 hv2
                  go_wp2_with ((go_at_call 128; refine (c_Atoi_range _ _ (by simp; omega) HV.out HE.out).mono ?_; rintro e w9 ⟨xv, nv, rfl, hb9⟩))
                  go_ret2
                  exact ⟨by rw [HQ.out]; rfl, bel⟩
  · have HQ := Lib.hid (show wholeB s i = (0, -1) by unfold wholeB; rw [if_neg (by omega)])
    have hz0 : (0 : Int) ≤ i := by omega
    go_enter Tryz.func103, Tryz.ntmps103
    go_wp2_with fail
    go_ret2
    exact ⟨by rw [HQ.out]; rfl, Below.refl _ _⟩
end Go.Proofs.YtffelpdefjkeaaaGreatDoor
namespace Go.Proofs.YtffelpdefjkeaaaGreatDoor
open Go.Shelf
def laysPre_ren : Go.Shelf.Ren := ⟨fun | 99 => 104 | 206 => 129 | n => n, fun | 9 => 9 | 4 => 4 | 3 => 3 | n => n, fun | n => n⟩
theorem laysPre : Go.Proofs.Lays.n99 Tryz.prog laysPre_ren := {
  mixed := by kernel_rfl
  f99 := Tryz.func104.trans (congrArg some (by kernel_rfl))
  f206 := Tryz.func129.trans (congrArg some (by kernel_rfl))
  t3 := Tryz.underlying3
  a3 := Tryz.isAgg3
  z3 := Tryz.sizeOf3
  v3 := Tryz.zeroValue3
  t4 := Tryz.underlying4
  a4 := Tryz.isAgg4
  z4 := Tryz.sizeOf4
  v4 := Tryz.zeroValue4
  t9 := Tryz.underlying9
  a9 := Tryz.isAgg9
  z9 := Tryz.sizeOf9
  v9 := Tryz.zeroValue9 }
end Go.Proofs.YtffelpdefjkeaaaGreatDoor
namespace Go.Proofs.YtffelpdefjkeaaaGreatDoor
open Go.RowKit Go.Lib
/-- The text goes on with the bytes wl from place i on. -/
def wordB (s : ByteArray) (i : Nat) (wl : List UInt8) : Bool := decide ((s.data.toList.drop i).take wl.length = wl)
def wT : List UInt8 := [116, 114, 117, 101]
def wF : List UInt8 := [102, 97, 108, 115, 101]
def wN : List UInt8 := [110, 117, 108, 108]
theorem word_prefix (s : ByteArray) (i : Nat) (wl : List UInt8) : hasPrefix (s.data.toList.drop i) wl = wordB s i wl := by
  unfold hasPrefix wordB
  rw [Bool.eq_iff_iff, List.isPrefixOf_iff_prefix, List.prefix_iff_eq_take, decide_eq_true_eq]
  exact ⟨fun h => h.symm, fun h => h.symm⟩
theorem word_first {s : ByteArray} {i : Nat} {c : UInt8} {r : List UInt8} (h : wordB s i (c :: r) = true) : i < s.size ∧ byteI s i = (c.toNat : Int) := by
  unfold wordB at h
  rw [decide_eq_true_eq] at h
  rcases hd : s.data.toList.drop i with _ | ⟨x, l⟩
  · rw [hd] at h; simp at h
  · rw [hd] at h
    simp at h
    have hlt : i < s.data.toList.length := by
      rcases Nat.lt_or_ge i s.data.toList.length with h1 | h1
      · exact h1
      · rw [List.drop_eq_nil_of_le h1] at hd; cases hd
    have hl2 : i < s.size := by rw [Array.length_toList] at hlt; exact hlt
    refine ⟨hl2, ?_⟩
    have h1 : s.data.toList[i]? = some x := by
      have h2 := congrArg (fun z : List UInt8 => z[0]?) hd
      simp only [List.getElem?_drop, Nat.add_zero, List.getElem?_cons_zero] at h2
      exact h2
    rw [List.getElem?_eq_getElem hlt, Array.getElem_toList] at h1
    injection h1 with h1
    unfold byteI ByteArray.get!
    show (((s.data[i]!).toNat : Nat) : Int) = _
    rw [getElem!_pos s.data i hl2, h1, h.1]
theorem word_fits {s : ByteArray} {i : Nat} {wl : List UInt8} (h0 : wl ≠ []) (h : wordB s i wl = true) : i + wl.length ≤ s.size := by
  unfold wordB at h
  rw [decide_eq_true_eq] at h
  have h1 := congrArg List.length h
  rw [List.length_take, List.length_drop] at h1
  have h2 : s.data.toList.length = s.size := by rw [Array.length_toList]; rfl
  have h3 : 0 < wl.length := List.length_pos_iff.2 h0
  omega
theorem c_HasPrefix (s p : ByteArray) (w : World) : Calls Tryz.prog 104 #[.string s, .string p] w fun e w' => e = .returned (.bool (Lib.hasPrefix s.data.toList p.data.toList)) ∧ w = w' := by
  have h := Any.strings_HasPrefix laysPre s p w
  change Calls Tryz.prog 104 _ _ _ at h
  exact h.mono (fun _ _ h => ⟨h.1, h.2.symm⟩)
theorem extract_drop (s : ByteArray) (i : Nat) : (s.extract i s.size).data.toList = s.data.toList.drop i := by
  rw [ByteArray.data_extract, Array.toList_extract, List.extract_eq_take_drop]
  exact List.take_of_length_le (by rw [List.length_drop, Array.length_toList]; exact Nat.le_refl _)
/-- The kind of a mark; 0. -/
def markI (x : Int) : Int := if x = 123 then 1 else if x = 125 then 2 else if x = 91 then 3 else if x = 93 then 4 else if x = 58 then 5 else if x = 44 then 6 else 0
def sign0 : SignD := ⟨0, ⟨#[]⟩, 0, 0⟩
def signC (x : SignD) : Array Value := #[.int .i64 x.kind, .string x.text, .int .i64 x.num, .int .i64 x.at']
/-- The sign at place i and the place behind it; -1: there is none. -/
def signB (s : ByteArray) (i : Nat) : SignD × Int :=
  if i < s.size then
    if markI (byteI s i) ≠ 0 then (⟨markI (byteI s i), ⟨#[]⟩, 0, i⟩, (i : Int) + 1)
    else if byteI s i = 34 then (if (quotB s i).2 < 0 then (sign0, -1) else (⟨7, (quotB s i).1, 0, i⟩, (quotB s i).2))
    else if byteI s i = 45 ∨ figI (byteI s i) = true then (if (wholeB s i).2 < 0 then (sign0, -1) else (⟨8, ⟨#[]⟩, (wholeB s i).1, i⟩, (wholeB s i).2))
    else if wordB s i wT = true then (⟨9, ⟨#[]⟩, 0, i⟩, (i : Int) + 4)
    else if wordB s i wF = true then (⟨10, ⟨#[]⟩, 0, i⟩, (i : Int) + 5)
    else if wordB s i wN = true then (⟨11, ⟨#[]⟩, 0, i⟩, (i : Int) + 4)
    else (sign0, -1)
  else (sign0, -1)
theorem sign_mark {s : ByteArray} {i : Nat} (h : i < s.size) (hm : markI (byteI s i) ≠ 0) : signB s i = (⟨markI (byteI s i), ⟨#[]⟩, 0, i⟩, (i : Int) + 1) := by unfold signB; rw [if_pos h, if_pos hm]
theorem sign_quot {s : ByteArray} {i : Nat} (h : i < s.size) (hq : byteI s i = 34) : signB s i = if (quotB s i).2 < 0 then (sign0, -1) else (⟨7, (quotB s i).1, 0, i⟩, (quotB s i).2) := by
  unfold signB
  rw [if_pos h, if_neg (by rw [hq]; decide), if_pos hq]
theorem sign_num {s : ByteArray} {i : Nat} (h : i < s.size) (hm : markI (byteI s i) = 0) (hq : byteI s i ≠ 34) (hn : byteI s i = 45 ∨ figI (byteI s i) = true) : signB s i = if (wholeB s i).2 < 0 then (sign0, -1) else (⟨8, ⟨#[]⟩, (wholeB s i).1, i⟩, (wholeB s i).2) := by
  unfold signB
  rw [if_pos h, if_neg (by rw [hm]; decide), if_neg hq, if_pos hn]
theorem sign_word {s : ByteArray} {i : Nat} (h : i < s.size) (hm : markI (byteI s i) = 0) (hq : byteI s i ≠ 34) (hn : ¬ (byteI s i = 45 ∨ figI (byteI s i) = true)) : signB s i = if wordB s i wT = true then (⟨9, ⟨#[]⟩, 0, i⟩, (i : Int) + 4)
    else if wordB s i wF = true then (⟨10, ⟨#[]⟩, 0, i⟩, (i : Int) + 5)
    else if wordB s i wN = true then (⟨11, ⟨#[]⟩, 0, i⟩, (i : Int) + 4)
    else (sign0, -1) := by
  unfold signB
  rw [if_pos h, if_neg (by rw [hm]; decide), if_neg hq, if_neg hn]
end Go.Proofs.YtffelpdefjkeaaaGreatDoor
namespace Go.Proofs.YtffelpdefjkeaaaGreatDoor
open Go.RowKit Go.Lib
theorem own_on {w wr w' : World} {e : TypeId} {sz n : Nat} {v : Value} {xs : List Value} (h : wr.ownsRow w.heap.size e sz v n xs) (_ : Below w.heap.size w w') (hb : Below wr.heap.size wr w') : w'.ownsRow w.heap.size e sz v n xs :=
  ownsRow_carry h (fun q hq => hb.block q (World.ownsRow.lt h q hq).2)
end Go.Proofs.YtffelpdefjkeaaaGreatDoor
