/- Written by wip/tools/pack.py: the texts that FnOrder needs, without what it does not need. No conditions. -/
import Derived.Test.YtffelpdefjkeaaaGreatDoorKFnOrder1
import Derived.Test.YtffelpdefjkeaaaGreatDoorKFnOrder2
namespace Go.Proofs.YtffelpdefjkeaaaGreatDoor
open Go.RowKit Go.Lib
/-- The library's two tables of UTF-8 are laid. -/
def Tabs (w : World) : Prop := Lib.Utf8Tabs (laysDec_ren.g 3) (laysDec_ren.g 4) w
theorem Tabs.below {w w' : World} (h : Tabs w) (hb : Below w.heap.size w w') : Tabs w' :=
  ⟨fun c hc => by have h1 := h.1 c hc; rw [hb.cell (World.block_lt_of_cell? w _ h1)]; exact h1,
   fun i hi => by
    have h1 := h.2 i hi
    exact ⟨by rw [hb.cell (World.block_lt_of_cell? w _ h1.1)]; exact h1.1, by rw [hb.cell (World.block_lt_of_cell? w _ h1.2)]; exact h1.2⟩⟩
theorem c_Decode (s : ByteArray) (w : World) (hT : Tabs w) :
    Calls Tryz.prog 124 #[.string s] w fun e w' => e = .returned (.tuple #[.int .i32 (Lib.decodeGo s).1, .int .i64 (Lib.decodeGo s).2]) ∧ Below w.heap.size w w' :=
  Any.utf8_DecodeRuneInString laysDec s w hT
theorem get_extract (s : ByteArray) (i k : Nat) (hi : i ≤ s.size) : (s.extract i s.size).get! k = s.get! (i + k) := by
  show (s.extract i s.size).data[k]! = s.data[i + k]!
  rw [ByteArray.data_extract, Array.getElem!_eq_getD, Array.getElem!_eq_getD, Array.getD_eq_getD_getElem?, Array.getD_eq_getD_getElem?, Array.getElem?_extract]
  by_cases h : k < s.size - i
  · have h2 : k < min s.size s.data.size - i := by rw [show s.data.size = s.size from rfl]; omega
    rw [if_pos h2]
  · have h2 : ¬ k < min s.size s.data.size - i := by rw [show s.data.size = s.size from rfl]; omega
    rw [if_neg h2, Array.getElem?_eq_none (by rw [show s.data.size = s.size from rfl]; omega)]
theorem decode_fit (n b0 b1 b2 b3 : Nat) (hn : 1 ≤ n) : (Lib.decodeN n b0 b1 b2 b3).1 ≤ 1114111 ∧ 1 ≤ (Lib.decodeN n b0 b1 b2 b3).2 ∧ (Lib.decodeN n b0 b1 b2 b3).2 ≤ n := by
  unfold Lib.decodeN
  repeat' split
  all_goals (refine ⟨?_, ?_, ?_⟩ <;> simp only <;> omega)
theorem decode_fits (s : ByteArray) (i : Nat) (hi : i < s.size) : (Utf8.decode s i).1 ≤ 1114111 ∧ 1 ≤ (Utf8.decode s i).2 ∧ i + (Utf8.decode s i).2 ≤ s.size := by
  rw [Lib.decode_at]
  obtain ⟨h1, h2, h3⟩ := decode_fit (s.size - i) (s.get! i).toNat (s.get! (i + 1)).toNat (s.get! (i + 2)).toNat (s.get! (i + 3)).toNat (by omega)
  exact ⟨h1, h2, by omega⟩
theorem decode_extract (s : ByteArray) (i : Nat) (hi : i < s.size) : Lib.decodeGo (s.extract i s.size) = Utf8.decode s i := by
  have hz : (s.extract i s.size).size = s.size - i := by simp
  unfold Lib.decodeGo
  rw [if_neg (by omega), Lib.decode_at, Lib.decode_at, hz]
  simp only [get_extract s i _ (Nat.le_of_lt hi), Nat.zero_add, Nat.sub_zero, Nat.add_zero]
theorem c_impl_RuneAt (s : ByteArray) (i : Nat) (w : World) (hs : s.size ≤ 9223372036854775807) (hi : i ≤ 9223372036854775807) (hT : Tabs w) :
    Calls Tryz.prog 99 #[.string s, .int .i64 i] w fun e w' => e = .returned (.tuple #[.int .i64 (runeB s i).1, .int .i64 (runeB s i).2]) ∧ Below w.heap.size w w' := by
  have HT := Lib.hid hT
  clear hT
  by_cases hlt : (i : Int) < s.size
  · have h0 : (0 : Int) ≤ i := by omega
    have h1 : (i : Int) ≤ s.size := by omega
    go_enter Tryz.func99, Tryz.ntmps99
    go_wp2_with fail
    refine (c_Decode _ _ HT.out).mono ?_
    rintro e w1 ⟨rfl, hb⟩
    rw [decode_extract s i (by omega)]
    obtain ⟨f1, f2, f3⟩ := decode_fits s i (by omega)
    obtain ⟨r, hr⟩ : ∃ r, r = (Utf8.decode s i).1 := ⟨_, rfl⟩
    obtain ⟨k, hk⟩ : ∃ k, k = (Utf8.decode s i).2 := ⟨_, rfl⟩
    rw [← hr] at f1
    rw [← hk] at f2 f3
    rw [← hr, ← hk]
    have hrk : Utf8.decode s i = (r, k) := by rw [hr, hk]
    clear hr hk
    by_cases e1 : (r : Int) = 65533
    · obtain rfl : r = 65533 := by omega
      clear e1
      by_cases e2 : (k : Int) ≤ 1
      · have Hf := Lib.hid (show runeB s i = (0, -1) by unfold runeB; rw [if_pos (by omega), hrk, if_pos (by rw [Prod.mk.injEq]; omega)])
        clear hrk
        go_wp2_with fail
        go_ret2
        exact ⟨by rw [Hf.out]; rfl, bel⟩
      · have Hf := Lib.hid (show runeB s i = ((65533 : Int), ((i + k : Nat) : Int)) by unfold runeB; rw [if_pos (by omega), hrk, if_neg (by rw [Prod.mk.injEq]; omega)]; rfl)
        have b2 : decide ((k : Int) ≤ 1) = false := decide_eq_false e2
        have hik : (i : Int) + k ≤ 9223372036854775807 := by omega
        clear hrk e2
        go_wp2_with fail
        go_ret2
        exact ⟨by rw [Hf.out]; rfl, bel⟩
    · have Hf := Lib.hid (show runeB s i = ((r : Int), ((i + k : Nat) : Int)) by unfold runeB; rw [if_pos (by omega), hrk, if_neg (by rw [Prod.mk.injEq]; omega)])
      have b1 : ((r : Int) == 65533) = false := beq_eq_false_iff_ne.2 e1
      have hik : (i : Int) + k ≤ 9223372036854775807 := by omega
      clear hrk e1
      go_wp2_with fail
      go_ret2
      exact ⟨by rw [Hf.out]; rfl, bel⟩
  · have Hf := Lib.hid (show runeB s i = (0, -1) by unfold runeB; rw [if_neg (by omega)])
    go_enter Tryz.func99, Tryz.ntmps99
    go_wp2_with fail
    go_ret2
    exact ⟨by rw [Hf.out]; rfl, bel⟩
theorem get_at (s : ByteArray) (i : Nat) (h : i < s.size) : (s[i]'h).toNat = (s.get! i).toNat := by
  show _ = (s.data[i]!).toNat
  rw [getElem!_pos s.data i h]
  rfl
theorem extract_bytes (s : ByteArray) (i n : Nat) (h : i + n ≤ s.size) : (s.extract i (i + n)).data.toList.map UInt8.toNat = (List.range n).map fun j => (s.get! (i + j)).toNat := by
  apply List.ext_getElem?
  intro j
  rw [List.getElem?_map, List.getElem?_map, ByteArray.data_extract, Array.getElem?_toList, Array.getElem?_extract]
  by_cases hj : j < n
  · have h2 : j < min (i + n) s.data.size - i := by rw [show s.data.size = s.size from rfl]; omega
    rw [if_pos h2, List.getElem?_range hj, Array.getElem?_eq_getElem (by rw [show s.data.size = s.size from rfl]; omega)]
    have := get_at s (i + j) (by omega)
    simp only [Option.map_some]
    rw [← this]
    rfl
  · have h2 : ¬ j < min (i + n) s.data.size - i := by rw [show s.data.size = s.size from rfl]; omega
    rw [if_neg h2, List.getElem?_eq_none (by simp; omega)]
    rfl
theorem toNat_inj : ∀ {a b : List UInt8}, a.map UInt8.toNat = b.map UInt8.toNat → a = b
  | [], [], _ => rfl
  | [], _ :: _, h => by simp at h
  | _ :: _, [], h => by simp at h
  | x :: a, y :: b, h => by
    simp only [List.map_cons, List.cons.injEq] at h
    rw [UInt8.toNat_inj.1 h.1, toNat_inj h.2]
theorem text_is (s : ByteArray) (i n g : Nat) (h : i + n ≤ s.size) : textB g = s.extract i (i + n) ↔ encN4 g = (List.range n).map fun j => (s.get! (i + j)).toNat := by
  rw [← textB_list g, ← extract_bytes s i n h]
  constructor
  · intro e; rw [e]
  · intro e
    apply ByteArray.ext
    exact Array.toList_inj.1 (toNat_inj e)
theorem runeB_of (s : ByteArray) (i : Nat) (hi : i < s.size) (g n : Nat) (h : Utf8.decode s i = (g, n)) (he : Utf8.decode s i ≠ (65533, 1)) : runeB s i = ((g : Int), (i : Int) + n) := by
  unfold runeB
  rw [if_pos hi, if_neg he, h]
  rfl
theorem runeB_no (s : ByteArray) (i : Nat) (hi : i < s.size) (he : Utf8.decode s i = (65533, 1)) : runeB s i = (0, -1) := by
  unfold runeB
  rw [if_pos hi, if_pos he]
theorem rune_ok1 (s : ByteArray) (i : Nat) (hi : i < s.size) (hb : (s.get! i).toNat < 192) (h : i + 1 ≤ s.size ∧ textB (s.get! i).toNat = s.extract i (i + 1)) : runeB s i = ((((s.get! i).toNat : Nat) : Int), (i : Int) + 1) := by
  obtain ⟨h1, ht⟩ := h
  have he := (text_is s i 1 _ h1).1 ht
  obtain ⟨wa, wb⟩ := rune_way1 (s.size - i) _ (s.get! (i + 1)).toNat (s.get! (i + 2)).toNat (s.get! (i + 3)).toNat hb
  have he2 : encN4 (s.get! i).toNat = [(s.get! i).toNat] := he
  exact runeB_of s i hi _ 1 (by rw [Lib.decode_at]; exact wb he2) (by rw [Lib.decode_at]; exact wa.1 he2)
theorem rune_no1 (s : ByteArray) (i : Nat) (hi : i < s.size) (hb : (s.get! i).toNat < 192) (h : ¬ (i + 1 ≤ s.size ∧ textB (s.get! i).toNat = s.extract i (i + 1))) : runeB s i = (0, -1) := by
  obtain ⟨wa, wb⟩ := rune_way1 (s.size - i) _ (s.get! (i + 1)).toNat (s.get! (i + 2)).toNat (s.get! (i + 3)).toNat hb
  refine runeB_no s i hi (Classical.byContradiction fun hc => h ?_)
  rw [Lib.decode_at] at hc
  exact ⟨by omega, (text_is s i 1 _ (by omega)).2 (wa.2 hc)⟩
theorem rune_ok2 (s : ByteArray) (i : Nat) (hi : i < s.size) (hb : 192 ≤ (s.get! i).toNat) (hb2 : (s.get! i).toNat < 224) (h : i + 2 ≤ s.size ∧ contN (s.get! (i + 1)).toNat = true ∧ textB (gathN (s.get! i).toNat (s.get! (i + 1)).toNat (s.get! (i + 2)).toNat (s.get! (i + 3)).toNat 2) = s.extract i (i + 2)) : runeB s i = ((((gathN (s.get! i).toNat (s.get! (i + 1)).toNat (s.get! (i + 2)).toNat (s.get! (i + 3)).toNat 2) : Nat) : Int), (i : Int) + 2) := by
  obtain ⟨h1, k1, ht⟩ := h
  have he := (text_is s i 2 _ h1).1 ht
  obtain ⟨wa, wb⟩ := rune_way2 (s.size - i) _ _ (s.get! (i + 2)).toNat (s.get! (i + 3)).toNat hb hb2 ((s.get! (i + 1)).toNat_lt)
  have hne := wa.1 ⟨by omega, k1, he⟩
  exact runeB_of s i hi _ 2 (by rw [Lib.decode_at]; exact wb hne) (by rw [Lib.decode_at]; exact hne)
theorem rune_no2 (s : ByteArray) (i : Nat) (hi : i < s.size) (hb : 192 ≤ (s.get! i).toNat) (hb2 : (s.get! i).toNat < 224) (h : ¬ (i + 2 ≤ s.size ∧ contN (s.get! (i + 1)).toNat = true ∧ textB (gathN (s.get! i).toNat (s.get! (i + 1)).toNat (s.get! (i + 2)).toNat (s.get! (i + 3)).toNat 2) = s.extract i (i + 2))) : runeB s i = (0, -1) := by
  obtain ⟨wa, wb⟩ := rune_way2 (s.size - i) _ _ (s.get! (i + 2)).toNat (s.get! (i + 3)).toNat hb hb2 ((s.get! (i + 1)).toNat_lt)
  refine runeB_no s i hi (Classical.byContradiction fun hc => h ?_)
  rw [Lib.decode_at] at hc
  obtain ⟨h1, k1, he⟩ := wa.2 hc
  exact ⟨by omega, k1, (text_is s i 2 _ (by omega)).2 he⟩
theorem rune_ok3 (s : ByteArray) (i : Nat) (hi : i < s.size) (hb : 224 ≤ (s.get! i).toNat) (hb2 : (s.get! i).toNat < 240) (h : i + 3 ≤ s.size ∧ contN (s.get! (i + 1)).toNat = true ∧ contN (s.get! (i + 2)).toNat = true ∧ textB (gathN (s.get! i).toNat (s.get! (i + 1)).toNat (s.get! (i + 2)).toNat (s.get! (i + 3)).toNat 3) = s.extract i (i + 3)) : runeB s i = ((((gathN (s.get! i).toNat (s.get! (i + 1)).toNat (s.get! (i + 2)).toNat (s.get! (i + 3)).toNat 3) : Nat) : Int), (i : Int) + 3) := by
  obtain ⟨h1, k1, k2, ht⟩ := h
  have he := (text_is s i 3 _ h1).1 ht
  obtain ⟨wa, wb⟩ := rune_way3 (s.size - i) _ _ _ (s.get! (i + 3)).toNat hb hb2 ((s.get! (i + 1)).toNat_lt) ((s.get! (i + 2)).toNat_lt)
  have hne := wa.1 ⟨by omega, k1, k2, he⟩
  exact runeB_of s i hi _ 3 (by rw [Lib.decode_at]; exact wb hne) (by rw [Lib.decode_at]; exact hne)
theorem rune_no3 (s : ByteArray) (i : Nat) (hi : i < s.size) (hb : 224 ≤ (s.get! i).toNat) (hb2 : (s.get! i).toNat < 240) (h : ¬ (i + 3 ≤ s.size ∧ contN (s.get! (i + 1)).toNat = true ∧ contN (s.get! (i + 2)).toNat = true ∧ textB (gathN (s.get! i).toNat (s.get! (i + 1)).toNat (s.get! (i + 2)).toNat (s.get! (i + 3)).toNat 3) = s.extract i (i + 3))) : runeB s i = (0, -1) := by
  obtain ⟨wa, wb⟩ := rune_way3 (s.size - i) _ _ _ (s.get! (i + 3)).toNat hb hb2 ((s.get! (i + 1)).toNat_lt) ((s.get! (i + 2)).toNat_lt)
  refine runeB_no s i hi (Classical.byContradiction fun hc => h ?_)
  rw [Lib.decode_at] at hc
  obtain ⟨h1, k1, k2, he⟩ := wa.2 hc
  exact ⟨by omega, k1, k2, (text_is s i 3 _ (by omega)).2 he⟩
theorem rune_ok4 (s : ByteArray) (i : Nat) (hi : i < s.size) (hb : 240 ≤ (s.get! i).toNat) (h : i + 4 ≤ s.size ∧ contN (s.get! (i + 1)).toNat = true ∧ contN (s.get! (i + 2)).toNat = true ∧ contN (s.get! (i + 3)).toNat = true ∧ textB (gathN (s.get! i).toNat (s.get! (i + 1)).toNat (s.get! (i + 2)).toNat (s.get! (i + 3)).toNat 4) = s.extract i (i + 4)) : runeB s i = ((((gathN (s.get! i).toNat (s.get! (i + 1)).toNat (s.get! (i + 2)).toNat (s.get! (i + 3)).toNat 4) : Nat) : Int), (i : Int) + 4) := by
  obtain ⟨h1, k1, k2, k3, ht⟩ := h
  have he := (text_is s i 4 _ h1).1 ht
  obtain ⟨wa, wb⟩ := rune_way4 (s.size - i) _ _ _ _ hb (s.get! i).toNat_lt ((s.get! (i + 1)).toNat_lt) ((s.get! (i + 2)).toNat_lt) ((s.get! (i + 3)).toNat_lt)
  have hne := wa.1 ⟨by omega, k1, k2, k3, he⟩
  exact runeB_of s i hi _ 4 (by rw [Lib.decode_at]; exact wb hne) (by rw [Lib.decode_at]; exact hne)
theorem rune_no4 (s : ByteArray) (i : Nat) (hi : i < s.size) (hb : 240 ≤ (s.get! i).toNat) (h : ¬ (i + 4 ≤ s.size ∧ contN (s.get! (i + 1)).toNat = true ∧ contN (s.get! (i + 2)).toNat = true ∧ contN (s.get! (i + 3)).toNat = true ∧ textB (gathN (s.get! i).toNat (s.get! (i + 1)).toNat (s.get! (i + 2)).toNat (s.get! (i + 3)).toNat 4) = s.extract i (i + 4))) : runeB s i = (0, -1) := by
  obtain ⟨wa, wb⟩ := rune_way4 (s.size - i) _ _ _ _ hb (s.get! i).toNat_lt ((s.get! (i + 1)).toNat_lt) ((s.get! (i + 2)).toNat_lt) ((s.get! (i + 3)).toNat_lt)
  refine runeB_no s i hi (Classical.byContradiction fun hc => h ?_)
  rw [Lib.decode_at] at hc
  obtain ⟨h1, k1, k2, k3, he⟩ := wa.2 hc
  exact ⟨by omega, k1, k2, k3, (text_is s i 4 _ (by omega)).2 he⟩
theorem toL_inj {a b : ByteArray} (h : a.toList = b.toList) : a = b := by
  rw [Lib.toList_data, Lib.toList_data] at h
  apply ByteArray.ext
  exact Array.toList_inj.1 h
theorem part_lt (b : Nat) (h : b < 256) : partN b < 256 := by
  unfold partN
  repeat' split
  all_goals omega
theorem gath_lt (b0 b1 b2 b3 k : Nat) (h0 : b0 < 256) (h1 : b1 < 256) (h2 : b2 < 256) (h3 : b3 < 256) : gathN b0 b1 b2 b3 k < 134217728 := by
  have hp := part_lt b0 h0
  unfold gathN
  repeat' split
  all_goals omega
theorem inB_cont (b : Nat) : inB (b : Int) 128 191 = contN b := by
  unfold inB contN
  rw [Bool.eq_iff_iff]
  simp
  omega
set_option maxHeartbeats 2000000 in
set_option maxRecDepth 100000 in
theorem c_spec_RuneAt (s : ByteArray) (i : Nat) (w : World) (hs : s.size ≤ 9223372036854775807) (hi : i ≤ 9223372036854775800) :
    Calls Tryz.prog 92 #[.string s, .int .i64 i] w fun e w' => e = .returned (.tuple #[.int .i64 (runeB s i).1, .int .i64 (runeB s i).2]) ∧ Below w.heap.size w w' := by
  by_cases hlt : (i : Int) < s.size
  · have h0 : (0 : Int) ≤ i := by omega
    have h1 : (i : Int) ≤ s.size := by omega
    have hin : inB (i : Int) 0 ((s.size : Int) - 1) = true := by unfold inB; simp; omega
    have hii : i < s.size := by omega
    obtain ⟨b0, hb⟩ : ∃ b, b = (s.get! i).toNat := ⟨_, rfl⟩
    obtain ⟨b1, hb1⟩ : ∃ b, b = (s.get! (i + 1)).toNat := ⟨_, rfl⟩
    obtain ⟨b2, hb2⟩ : ∃ b, b = (s.get! (i + 2)).toNat := ⟨_, rfl⟩
    obtain ⟨b3, hb3⟩ : ∃ b, b = (s.get! (i + 3)).toNat := ⟨_, rfl⟩
    have hx0 : (s[i]'hii).toNat = b0 := by rw [hb]; exact get_at s i hii
    have l0 : (b0 : Int) < 256 := by have := (s.get! i).toNat_lt; omega
    have l1 : (b1 : Int) < 256 := by have := (s.get! (i + 1)).toNat_lt; omega
    have l2 : (b2 : Int) < 256 := by have := (s.get! (i + 2)).toNat_lt; omega
    have l3 : (b3 : Int) < 256 := by have := (s.get! (i + 3)).toNat_lt; omega
    have HB := Lib.hid (And.intro hb (And.intro hb1 (And.intro hb2 hb3)))
    clear hb hb1 hb2 hb3
    by_cases c4 : (240 : Int) ≤ b0
    · have HC := Lib.hid (show 240 ≤ b0 ∧ b0 < 256 by omega)
      by_cases hw : (s.size : Int) < i + 4
      · have Hf := Lib.hid (show runeB s i = (0, -1) from rune_no4 s i hii (by have := HB.out.1; have := HC.out; omega) (fun h => by have := h.1; omega))
        skip
        go_enter Tryz.func92, Tryz.ntmps92
        go_wp2_with (first | (go_at_call 59; refine (c_spec_l01In _ _ _ _).mono ?_; rintro e w' ⟨rfl, rfl⟩))
        go_ret2
        exact ⟨by rw [Hf.out]; rfl, bel⟩
      · obtain ⟨p1, hp1⟩ : ∃ p : Nat, p = i + 1 := ⟨_, rfl⟩
        have hpl1 : p1 < s.size := by omega
        have hpi1 : (p1 : Int) < s.size := by omega
        have hpe1 : (i : Int) + 1 = p1 := by omega
        have hx1 : (s[p1]'hpl1).toNat = b1 := by rw [HB.out.2.1, ← hp1]; exact get_at s p1 hpl1
        obtain ⟨p2, hp2⟩ : ∃ p : Nat, p = i + 2 := ⟨_, rfl⟩
        have hpl2 : p2 < s.size := by omega
        have hpi2 : (p2 : Int) < s.size := by omega
        have hpe2 : (i : Int) + 2 = p2 := by omega
        have hx2 : (s[p2]'hpl2).toNat = b2 := by rw [HB.out.2.2.1, ← hp2]; exact get_at s p2 hpl2
        obtain ⟨p3, hp3⟩ : ∃ p : Nat, p = i + 3 := ⟨_, rfl⟩
        have hpl3 : p3 < s.size := by omega
        have hpi3 : (p3 : Int) < s.size := by omega
        have hpe3 : (i : Int) + 3 = p3 := by omega
        have hx3 : (s[p3]'hpl3).toNat = b3 := by rw [HB.out.2.2.2, ← hp3]; exact get_at s p3 hpl3
        clear hp1
        clear hp2
        clear hp3
        obtain ⟨p4, hp4⟩ : ∃ p : Nat, p = i + 4 := ⟨_, rfl⟩
        have hpe4 : (i : Int) + 4 = p4 := by omega
        have hpk4 : (i : Int) ≤ p4 := by omega
        have hpm4 : (p4 : Int) ≤ s.size := by omega
        have hpd4 : decide (s.size < p4) = false := decide_eq_false (by omega)
        have HP := Lib.hid hp4
        clear hp4 hw
        go_enter Tryz.func92, Tryz.ntmps92
        go_wp2_with (first | (go_at_call 59; refine (c_spec_l01In _ _ _ _).mono ?_; rintro e w' ⟨rfl, rfl⟩))
        go_loopw [8, 9] (fun s8 s9 wr => ∃ (k : Nat) (z : Int), 1 ≤ k ∧ k ≤ 4 ∧ z = k ∧ s9 = .int .i64 z ∧ s8 = .int .i64 (gathN b0 b1 b2 b3 k : Nat) ∧ (2 ≤ k → contN b1 = true) ∧ (3 ≤ k → contN b2 = true) ∧ (4 ≤ k → contN b3 = true) ∧ wr = w) (fun _ s9 _ => 4 - (Lib.intOf s9).toNat)
        case atStart =>
          have hp : ((gathN b0 b1 b2 b3 1 : Nat) : Int) = (b0 : Int) - 240 := by have := HC.out; show ((partN b0 : Nat) : Int) = _; unfold partN; (repeat' split) <;> omega
          exact ⟨1, 1, by omega, by omega, rfl, rfl, by rw [hp], fun h => absurd h (by omega), fun h => absurd h (by omega), fun h => absurd h (by omega), rfl⟩
        case round =>
          obtain ⟨k, z, hk1, hk2, hz, rfl, rfl, q1, q2, q3, rfl⟩ := hrel
          rcases (show k = 1 ∨ k = 2 ∨ k = 3 ∨ k = 4 by omega) with rfl | rfl | rfl | rfl
          · obtain rfl : z = 1 := by omega
            clear hz
            clear q1 q2 q3
            obtain ⟨g, hg⟩ : ∃ g, g = gathN b0 b1 b2 b3 1 := ⟨_, rfl⟩
            have hgb : (g : Int) < 134217728 := by rw [hg]; have := gath_lt b0 b1 b2 b3 1 (by omega) (by omega) (by omega) (by omega); omega
            have hgl : contN b1 = true → ((gathN b0 b1 b2 b3 2 : Nat) : Int) = 64 * g + b1 - 128 := fun h => by have h9 := h; unfold contN at h9; simp at h9; rw [hg]; show ((64 * gathN b0 b1 b2 b3 1 + b1 - 128 : Nat) : Int) = _; omega
            have hG := Lib.hid hg
            rw [← hg]
            clear hg
            have hc := inB_cont b1
            rcases hq : contN b1 with _ | _
            · rw [hq] at hc
              have Hf := Lib.hid (show runeB s i = (0, -1) from rune_no4 s i hii (by have := HB.out.1; have := HC.out; omega) (fun h => by have := h.2.1; rw [← HB.out.2.1, hq] at this; cases this))
              clear hgl
              go_wp2_with (first | (go_at_call 59; refine (c_spec_l01In _ _ _ _).mono ?_; rintro e w' ⟨rfl, rfl⟩))
              go_ret2
              exact ⟨by rw [Hf.out]; rfl, bel⟩
            · rw [hq] at hc
              have hgl2 := hgl hq
              clear hgl
              have Hgl := Lib.hid hgl2
              clear hgl2
              go_wp2_with (first | (go_at_call 59; refine (c_spec_l01In _ _ _ _).mono ?_; rintro e w' ⟨rfl, rfl⟩))
              go_roundw
              case rel => exact ⟨2, 2, by omega, by omega, rfl, by first | rfl | go_num, by rw [Hgl.out], (by first | exact fun _ => hq | exact fun _ => True.intro | exact True.intro), (by first | exact fun h => absurd h (by omega) | exact True.intro), (by first | exact fun h => absurd h (by omega) | exact True.intro), (by first | rfl | exact True.intro)⟩
              case measure => simp [Lib.intOf]
          · obtain rfl : z = 2 := by omega
            clear hz
            have e1 := Lib.hid (q1 (by omega))
            clear q1 q2 q3
            obtain ⟨g, hg⟩ : ∃ g, g = gathN b0 b1 b2 b3 2 := ⟨_, rfl⟩
            have hgb : (g : Int) < 134217728 := by rw [hg]; have := gath_lt b0 b1 b2 b3 2 (by omega) (by omega) (by omega) (by omega); omega
            have hgl : contN b2 = true → ((gathN b0 b1 b2 b3 3 : Nat) : Int) = 64 * g + b2 - 128 := fun h => by have h9 := h; unfold contN at h9; simp at h9; rw [hg]; show ((64 * gathN b0 b1 b2 b3 2 + b2 - 128 : Nat) : Int) = _; omega
            have hG := Lib.hid hg
            rw [← hg]
            clear hg
            have hc := inB_cont b2
            rcases hq : contN b2 with _ | _
            · rw [hq] at hc
              have Hf := Lib.hid (show runeB s i = (0, -1) from rune_no4 s i hii (by have := HB.out.1; have := HC.out; omega) (fun h => by have := h.2.2.1; rw [← HB.out.2.2.1, hq] at this; cases this))
              clear hgl
              go_wp2_with (first | (go_at_call 59; refine (c_spec_l01In _ _ _ _).mono ?_; rintro e w' ⟨rfl, rfl⟩))
              go_ret2
              exact ⟨by rw [Hf.out]; rfl, bel⟩
            · rw [hq] at hc
              have hgl2 := hgl hq
              clear hgl
              have Hgl := Lib.hid hgl2
              clear hgl2
              go_wp2_with (first | (go_at_call 59; refine (c_spec_l01In _ _ _ _).mono ?_; rintro e w' ⟨rfl, rfl⟩))
              go_roundw
              case rel => exact ⟨3, 3, by omega, by omega, rfl, by first | rfl | go_num, by rw [Hgl.out], (by first | exact fun _ => e1.out | exact fun _ => True.intro | exact True.intro), (by first | exact fun _ => hq | exact fun _ => True.intro | exact True.intro), (by first | exact fun h => absurd h (by omega) | exact True.intro), (by first | rfl | exact True.intro)⟩
              case measure => simp [Lib.intOf]
          · obtain rfl : z = 3 := by omega
            clear hz
            have e1 := Lib.hid (q1 (by omega))
            have e2 := Lib.hid (q2 (by omega))
            clear q1 q2 q3
            obtain ⟨g, hg⟩ : ∃ g, g = gathN b0 b1 b2 b3 3 := ⟨_, rfl⟩
            have hgb : (g : Int) < 134217728 := by rw [hg]; have := gath_lt b0 b1 b2 b3 3 (by omega) (by omega) (by omega) (by omega); omega
            have hgl : contN b3 = true → ((gathN b0 b1 b2 b3 4 : Nat) : Int) = 64 * g + b3 - 128 := fun h => by have h9 := h; unfold contN at h9; simp at h9; rw [hg]; show ((64 * gathN b0 b1 b2 b3 3 + b3 - 128 : Nat) : Int) = _; omega
            have hG := Lib.hid hg
            rw [← hg]
            clear hg
            have hc := inB_cont b3
            rcases hq : contN b3 with _ | _
            · rw [hq] at hc
              have Hf := Lib.hid (show runeB s i = (0, -1) from rune_no4 s i hii (by have := HB.out.1; have := HC.out; omega) (fun h => by have := h.2.2.2.1; rw [← HB.out.2.2.2, hq] at this; cases this))
              clear hgl
              go_wp2_with (first | (go_at_call 59; refine (c_spec_l01In _ _ _ _).mono ?_; rintro e w' ⟨rfl, rfl⟩))
              go_ret2
              exact ⟨by rw [Hf.out]; rfl, bel⟩
            · rw [hq] at hc
              have hgl2 := hgl hq
              clear hgl
              have Hgl := Lib.hid hgl2
              clear hgl2
              go_wp2_with (first | (go_at_call 59; refine (c_spec_l01In _ _ _ _).mono ?_; rintro e w' ⟨rfl, rfl⟩))
              go_roundw
              case rel => exact ⟨4, 4, by omega, by omega, rfl, by first | rfl | go_num, by rw [Hgl.out], (by first | exact fun _ => e1.out | exact fun _ => True.intro | exact True.intro), (by first | exact fun _ => e2.out | exact fun _ => True.intro | exact True.intro), (by first | exact fun _ => hq | exact fun _ => True.intro | exact True.intro), (by first | rfl | exact True.intro)⟩
              case measure => simp [Lib.intOf]
          · obtain rfl : z = 4 := by omega
            clear hz
            have e1 := Lib.hid (q1 (by omega))
            have e2 := Lib.hid (q2 (by omega))
            have e3 := Lib.hid (q3 (by omega))
            clear q1 q2 q3
            obtain ⟨g, hg⟩ : ∃ g, g = gathN b0 b1 b2 b3 4 := ⟨_, rfl⟩
            have hgb : (g : Int) < 134217728 := by rw [hg]; have := gath_lt b0 b1 b2 b3 4 (by omega) (by omega) (by omega) (by omega); omega
            have hG := Lib.hid hg
            rw [← hg]
            clear hg
            by_cases heq : textB g = s.extract i p4
            · have hE : ((textB g).toList == (s.extract i p4).toList) = true := by simp [heq]
              have Hf := Lib.hid (show runeB s i = ((g : Int), (p4 : Int)) from by rw [← hpe4]; have h9 := rune_ok4 s i hii (by have := HB.out.1; have := HC.out; omega) ⟨by have := HP.out; omega, (by rw [← HB.out.2.1]; exact e1.out), (by rw [← HB.out.2.2.1]; exact e2.out), (by rw [← HB.out.2.2.2]; exact e3.out), by rw [← HB.out.1, ← HB.out.2.1, ← HB.out.2.2.1, ← HB.out.2.2.2, ← hG.out, ← HP.out]; exact heq⟩; rw [← HB.out.1, ← HB.out.2.1, ← HB.out.2.2.1, ← HB.out.2.2.2, ← hG.out] at h9; exact h9)
              clear heq
              go_wp2_with fail
              refine wp_region_det 9 (by kernel_rfl) (by kernel_rfl) (by decide) ?_
              apply Exists.intro
              refine And.intro ?_ ?_
              · (intro W hW; (try simp only [Act.put, List.setIfInBounds_toArray, List.set_cons_zero, List.set_cons_succ]); first | (go_wp2_with fail; exact ⟨rfl, rfl, Below.refl _ _⟩))
              apply Exists.intro
              refine And.intro ?_ ?_
              · (intro W hW; (try simp only [Act.put, List.setIfInBounds_toArray, List.set_cons_zero, List.set_cons_succ]); first | (obtain ⟨hcW, hfW⟩ := bcell hW; have hsW := hW.size; (try simp at hsW); (try have hsW0 := lt_of_succ_le hsW); (try (have hsW1 := lt_pred hsW; (try (have hsW2 := lt_pred hsW1)))); go_wp2_with (first | (go_at_call 121; refine (c_spec_RuneText _ _ (by omega)).mono ?_; rintro e w9 ⟨rfl, hb9⟩)); exact ⟨rfl, rfl, bel⟩))
              apply Exists.intro
              refine And.intro ?_ ?_
              · (intro W hW; (try simp only [Act.put, List.setIfInBounds_toArray, List.set_cons_zero, List.set_cons_succ]); first | (go_wp2_with fail; exact ⟨rfl, rfl, Below.refl _ _⟩))
              apply Exists.intro
              refine And.intro ?_ ?_
              · (intro W hW; (try simp only [Act.put, List.setIfInBounds_toArray, List.set_cons_zero, List.set_cons_succ]); first | (go_wp2_with fail; exact ⟨rfl, rfl, Below.refl _ _⟩))
              apply Exists.intro
              refine And.intro ?_ ?_
              · (intro W hW; (try simp only [Act.put, List.setIfInBounds_toArray, List.set_cons_zero, List.set_cons_succ]); first | (go_wp2_with fail; exact ⟨rfl, rfl, Below.refl _ _⟩))
              apply Exists.intro
              refine And.intro ?_ ?_
              · (intro W hW; (try simp only [Act.put, List.setIfInBounds_toArray, List.set_cons_zero, List.set_cons_succ]); first | (go_wp2_with fail; exact ⟨rfl, rfl, Below.refl _ _⟩))
              apply Exists.intro
              refine And.intro ?_ ?_
              · (intro W hW; (try simp only [Act.put, List.setIfInBounds_toArray, List.set_cons_zero, List.set_cons_succ]); first | (go_wp2_with fail; exact ⟨rfl, rfl, Below.refl _ _⟩))
              apply Exists.intro
              refine And.intro ?_ ?_
              · (intro W hW; (try simp only [Act.put, List.setIfInBounds_toArray, List.set_cons_zero, List.set_cons_succ]); first | (go_wp2_with fail; exact ⟨rfl, rfl, Below.refl _ _⟩))
              apply Exists.intro
              refine And.intro ?_ ?_
              · (intro W hW; (try simp only [Act.put, List.setIfInBounds_toArray, List.set_cons_zero, List.set_cons_succ]); first | (go_wp2_with fail; exact ⟨rfl, rfl, Below.refl _ _⟩))
              intro w1 hb
              (first | (have hcu2 := Cum.join hcu hb; (try clear hcu); (try clear hc); (try clear hfz); (try clear hsz); (try clear hs0); (try clear hs1); (try clear hs2); (try clear hs3); (try clear hs4); ) | have hcu2 := Cum.mk hb); have hcu := hcu2; clear hcu2; obtain ⟨hc, hfz⟩ := bcell hcu.h; have hsz := hcu.h.size; (try simp at hsz); (try have hs0 := lt_of_succ_le hsz); (try (have hs1 := lt_pred hsz; (try (have hs2 := lt_pred hs1; (try (have hs3 := lt_pred hs2; (try have hs4 := lt_pred hs3)))))))
              (try simp only [Act.put, List.setIfInBounds_toArray, List.set_cons_zero, List.set_cons_succ])
              (try simp only [List.drop_succ_cons, List.drop_nil])
              go_wp2_with fail
              go_ret2
              exact ⟨by rw [Hf.out]; rfl, bel⟩
            · have hE : ((textB g).toList == (s.extract i p4).toList) = false := beq_eq_false_iff_ne.2 (fun e => heq (toL_inj e))
              have Hf := Lib.hid (show runeB s i = (0, -1) from rune_no4 s i hii (by have := HB.out.1; have := HC.out; omega) (fun h => heq (by have h9 := h.2.2.2.2; rw [← HB.out.1, ← HB.out.2.1, ← HB.out.2.2.1, ← HB.out.2.2.2, ← hG.out, ← HP.out] at h9; exact h9)))
              clear heq
              go_wp2_with fail
              refine wp_region_det 9 (by kernel_rfl) (by kernel_rfl) (by decide) ?_
              apply Exists.intro
              refine And.intro ?_ ?_
              · (intro W hW; (try simp only [Act.put, List.setIfInBounds_toArray, List.set_cons_zero, List.set_cons_succ]); first | (go_wp2_with fail; exact ⟨rfl, rfl, Below.refl _ _⟩))
              apply Exists.intro
              refine And.intro ?_ ?_
              · (intro W hW; (try simp only [Act.put, List.setIfInBounds_toArray, List.set_cons_zero, List.set_cons_succ]); first | (obtain ⟨hcW, hfW⟩ := bcell hW; have hsW := hW.size; (try simp at hsW); (try have hsW0 := lt_of_succ_le hsW); (try (have hsW1 := lt_pred hsW; (try (have hsW2 := lt_pred hsW1)))); go_wp2_with (first | (go_at_call 121; refine (c_spec_RuneText _ _ (by omega)).mono ?_; rintro e w9 ⟨rfl, hb9⟩)); exact ⟨rfl, rfl, bel⟩))
              apply Exists.intro
              refine And.intro ?_ ?_
              · (intro W hW; (try simp only [Act.put, List.setIfInBounds_toArray, List.set_cons_zero, List.set_cons_succ]); first | (go_wp2_with fail; exact ⟨rfl, rfl, Below.refl _ _⟩))
              apply Exists.intro
              refine And.intro ?_ ?_
              · (intro W hW; (try simp only [Act.put, List.setIfInBounds_toArray, List.set_cons_zero, List.set_cons_succ]); first | (go_wp2_with fail; exact ⟨rfl, rfl, Below.refl _ _⟩))
              apply Exists.intro
              refine And.intro ?_ ?_
              · (intro W hW; (try simp only [Act.put, List.setIfInBounds_toArray, List.set_cons_zero, List.set_cons_succ]); first | (go_wp2_with fail; exact ⟨rfl, rfl, Below.refl _ _⟩))
              apply Exists.intro
              refine And.intro ?_ ?_
              · (intro W hW; (try simp only [Act.put, List.setIfInBounds_toArray, List.set_cons_zero, List.set_cons_succ]); first | (go_wp2_with fail; exact ⟨rfl, rfl, Below.refl _ _⟩))
              apply Exists.intro
              refine And.intro ?_ ?_
              · (intro W hW; (try simp only [Act.put, List.setIfInBounds_toArray, List.set_cons_zero, List.set_cons_succ]); first | (go_wp2_with fail; exact ⟨rfl, rfl, Below.refl _ _⟩))
              apply Exists.intro
              refine And.intro ?_ ?_
              · (intro W hW; (try simp only [Act.put, List.setIfInBounds_toArray, List.set_cons_zero, List.set_cons_succ]); first | (go_wp2_with fail; exact ⟨rfl, rfl, Below.refl _ _⟩))
              apply Exists.intro
              refine And.intro ?_ ?_
              · (intro W hW; (try simp only [Act.put, List.setIfInBounds_toArray, List.set_cons_zero, List.set_cons_succ]); first | (go_wp2_with fail; exact ⟨rfl, rfl, Below.refl _ _⟩))
              intro w1 hb
              (first | (have hcu2 := Cum.join hcu hb; (try clear hcu); (try clear hc); (try clear hfz); (try clear hsz); (try clear hs0); (try clear hs1); (try clear hs2); (try clear hs3); (try clear hs4); ) | have hcu2 := Cum.mk hb); have hcu := hcu2; clear hcu2; obtain ⟨hc, hfz⟩ := bcell hcu.h; have hsz := hcu.h.size; (try simp at hsz); (try have hs0 := lt_of_succ_le hsz); (try (have hs1 := lt_pred hsz; (try (have hs2 := lt_pred hs1; (try (have hs3 := lt_pred hs2; (try have hs4 := lt_pred hs3)))))))
              (try simp only [Act.put, List.setIfInBounds_toArray, List.set_cons_zero, List.set_cons_succ])
              (try simp only [List.drop_succ_cons, List.drop_nil])
              go_wp2_with fail
              go_ret2
              exact ⟨by rw [Hf.out]; rfl, bel⟩
    · have d4 : decide ((240 : Int) ≤ b0) = false := decide_eq_false c4
      by_cases c3 : (224 : Int) ≤ b0
      · have HC := Lib.hid (show 224 ≤ b0 ∧ b0 < 240 by omega)
        clear c4
        by_cases hw : (s.size : Int) < i + 3
        · have Hf := Lib.hid (show runeB s i = (0, -1) from rune_no3 s i hii (by have := HB.out.1; have := HC.out; omega) (by have := HB.out.1; have := HC.out; omega) (fun h => by have := h.1; omega))
          skip
          go_enter Tryz.func92, Tryz.ntmps92
          go_wp2_with (first | (go_at_call 59; refine (c_spec_l01In _ _ _ _).mono ?_; rintro e w' ⟨rfl, rfl⟩))
          go_ret2
          exact ⟨by rw [Hf.out]; rfl, bel⟩
        · obtain ⟨p1, hp1⟩ : ∃ p : Nat, p = i + 1 := ⟨_, rfl⟩
          have hpl1 : p1 < s.size := by omega
          have hpi1 : (p1 : Int) < s.size := by omega
          have hpe1 : (i : Int) + 1 = p1 := by omega
          have hx1 : (s[p1]'hpl1).toNat = b1 := by rw [HB.out.2.1, ← hp1]; exact get_at s p1 hpl1
          obtain ⟨p2, hp2⟩ : ∃ p : Nat, p = i + 2 := ⟨_, rfl⟩
          have hpl2 : p2 < s.size := by omega
          have hpi2 : (p2 : Int) < s.size := by omega
          have hpe2 : (i : Int) + 2 = p2 := by omega
          have hx2 : (s[p2]'hpl2).toNat = b2 := by rw [HB.out.2.2.1, ← hp2]; exact get_at s p2 hpl2
          clear hp1
          clear hp2
          obtain ⟨p3, hp3⟩ : ∃ p : Nat, p = i + 3 := ⟨_, rfl⟩
          have hpe3 : (i : Int) + 3 = p3 := by omega
          have hpk3 : (i : Int) ≤ p3 := by omega
          have hpm3 : (p3 : Int) ≤ s.size := by omega
          have hpd3 : decide (s.size < p3) = false := decide_eq_false (by omega)
          have HP := Lib.hid hp3
          clear hp3 hw
          go_enter Tryz.func92, Tryz.ntmps92
          go_wp2_with (first | (go_at_call 59; refine (c_spec_l01In _ _ _ _).mono ?_; rintro e w' ⟨rfl, rfl⟩))
          go_loopw [8, 9] (fun s8 s9 wr => ∃ (k : Nat) (z : Int), 1 ≤ k ∧ k ≤ 3 ∧ z = k ∧ s9 = .int .i64 z ∧ s8 = .int .i64 (gathN b0 b1 b2 b3 k : Nat) ∧ (2 ≤ k → contN b1 = true) ∧ (3 ≤ k → contN b2 = true) ∧ wr = w) (fun _ s9 _ => 3 - (Lib.intOf s9).toNat)
          case atStart =>
            have hp : ((gathN b0 b1 b2 b3 1 : Nat) : Int) = (b0 : Int) - 224 := by have := HC.out; show ((partN b0 : Nat) : Int) = _; unfold partN; (repeat' split) <;> omega
            exact ⟨1, 1, by omega, by omega, rfl, rfl, by rw [hp], fun h => absurd h (by omega), fun h => absurd h (by omega), rfl⟩
          case round =>
            obtain ⟨k, z, hk1, hk2, hz, rfl, rfl, q1, q2, rfl⟩ := hrel
            rcases (show k = 1 ∨ k = 2 ∨ k = 3 by omega) with rfl | rfl | rfl
            · obtain rfl : z = 1 := by omega
              clear hz
              clear q1 q2
              obtain ⟨g, hg⟩ : ∃ g, g = gathN b0 b1 b2 b3 1 := ⟨_, rfl⟩
              have hgb : (g : Int) < 134217728 := by rw [hg]; have := gath_lt b0 b1 b2 b3 1 (by omega) (by omega) (by omega) (by omega); omega
              have hgl : contN b1 = true → ((gathN b0 b1 b2 b3 2 : Nat) : Int) = 64 * g + b1 - 128 := fun h => by have h9 := h; unfold contN at h9; simp at h9; rw [hg]; show ((64 * gathN b0 b1 b2 b3 1 + b1 - 128 : Nat) : Int) = _; omega
              have hG := Lib.hid hg
              rw [← hg]
              clear hg
              have hc := inB_cont b1
              rcases hq : contN b1 with _ | _
              · rw [hq] at hc
                have Hf := Lib.hid (show runeB s i = (0, -1) from rune_no3 s i hii (by have := HB.out.1; have := HC.out; omega) (by have := HB.out.1; have := HC.out; omega) (fun h => by have := h.2.1; rw [← HB.out.2.1, hq] at this; cases this))
                clear hgl
                go_wp2_with (first | (go_at_call 59; refine (c_spec_l01In _ _ _ _).mono ?_; rintro e w' ⟨rfl, rfl⟩))
                go_ret2
                exact ⟨by rw [Hf.out]; rfl, bel⟩
              · rw [hq] at hc
                have hgl2 := hgl hq
                clear hgl
                have Hgl := Lib.hid hgl2
                clear hgl2
                go_wp2_with (first | (go_at_call 59; refine (c_spec_l01In _ _ _ _).mono ?_; rintro e w' ⟨rfl, rfl⟩))
                go_roundw
                case rel => exact ⟨2, 2, by omega, by omega, rfl, by first | rfl | go_num, by rw [Hgl.out], (by first | exact fun _ => hq | exact fun _ => True.intro | exact True.intro), (by first | exact fun h => absurd h (by omega) | exact True.intro), (by first | rfl | exact True.intro)⟩
                case measure => simp [Lib.intOf]
            · obtain rfl : z = 2 := by omega
              clear hz
              have e1 := Lib.hid (q1 (by omega))
              clear q1 q2
              obtain ⟨g, hg⟩ : ∃ g, g = gathN b0 b1 b2 b3 2 := ⟨_, rfl⟩
              have hgb : (g : Int) < 134217728 := by rw [hg]; have := gath_lt b0 b1 b2 b3 2 (by omega) (by omega) (by omega) (by omega); omega
              have hgl : contN b2 = true → ((gathN b0 b1 b2 b3 3 : Nat) : Int) = 64 * g + b2 - 128 := fun h => by have h9 := h; unfold contN at h9; simp at h9; rw [hg]; show ((64 * gathN b0 b1 b2 b3 2 + b2 - 128 : Nat) : Int) = _; omega
              have hG := Lib.hid hg
              rw [← hg]
              clear hg
              have hc := inB_cont b2
              rcases hq : contN b2 with _ | _
              · rw [hq] at hc
                have Hf := Lib.hid (show runeB s i = (0, -1) from rune_no3 s i hii (by have := HB.out.1; have := HC.out; omega) (by have := HB.out.1; have := HC.out; omega) (fun h => by have := h.2.2.1; rw [← HB.out.2.2.1, hq] at this; cases this))
                clear hgl
                go_wp2_with (first | (go_at_call 59; refine (c_spec_l01In _ _ _ _).mono ?_; rintro e w' ⟨rfl, rfl⟩))
                go_ret2
                exact ⟨by rw [Hf.out]; rfl, bel⟩
              · rw [hq] at hc
                have hgl2 := hgl hq
                clear hgl
                have Hgl := Lib.hid hgl2
                clear hgl2
                go_wp2_with (first | (go_at_call 59; refine (c_spec_l01In _ _ _ _).mono ?_; rintro e w' ⟨rfl, rfl⟩))
                go_roundw
                case rel => exact ⟨3, 3, by omega, by omega, rfl, by first | rfl | go_num, by rw [Hgl.out], (by first | exact fun _ => e1.out | exact fun _ => True.intro | exact True.intro), (by first | exact fun _ => hq | exact fun _ => True.intro | exact True.intro), (by first | rfl | exact True.intro)⟩
                case measure => simp [Lib.intOf]
            · obtain rfl : z = 3 := by omega
              clear hz
              have e1 := Lib.hid (q1 (by omega))
              have e2 := Lib.hid (q2 (by omega))
              clear q1 q2
              obtain ⟨g, hg⟩ : ∃ g, g = gathN b0 b1 b2 b3 3 := ⟨_, rfl⟩
              have hgb : (g : Int) < 134217728 := by rw [hg]; have := gath_lt b0 b1 b2 b3 3 (by omega) (by omega) (by omega) (by omega); omega
              have hG := Lib.hid hg
              rw [← hg]
              clear hg
              by_cases heq : textB g = s.extract i p3
              · have hE : ((textB g).toList == (s.extract i p3).toList) = true := by simp [heq]
                have Hf := Lib.hid (show runeB s i = ((g : Int), (p3 : Int)) from by rw [← hpe3]; have h9 := rune_ok3 s i hii (by have := HB.out.1; have := HC.out; omega) (by have := HB.out.1; have := HC.out; omega) ⟨by have := HP.out; omega, (by rw [← HB.out.2.1]; exact e1.out), (by rw [← HB.out.2.2.1]; exact e2.out), by rw [← HB.out.1, ← HB.out.2.1, ← HB.out.2.2.1, ← HB.out.2.2.2, ← hG.out, ← HP.out]; exact heq⟩; rw [← HB.out.1, ← HB.out.2.1, ← HB.out.2.2.1, ← HB.out.2.2.2, ← hG.out] at h9; exact h9)
                clear heq
                go_wp2_with fail
                refine wp_region_det 9 (by kernel_rfl) (by kernel_rfl) (by decide) ?_
                apply Exists.intro
                refine And.intro ?_ ?_
                · (intro W hW; (try simp only [Act.put, List.setIfInBounds_toArray, List.set_cons_zero, List.set_cons_succ]); first | (go_wp2_with fail; exact ⟨rfl, rfl, Below.refl _ _⟩))
                apply Exists.intro
                refine And.intro ?_ ?_
                · (intro W hW; (try simp only [Act.put, List.setIfInBounds_toArray, List.set_cons_zero, List.set_cons_succ]); first | (obtain ⟨hcW, hfW⟩ := bcell hW; have hsW := hW.size; (try simp at hsW); (try have hsW0 := lt_of_succ_le hsW); (try (have hsW1 := lt_pred hsW; (try (have hsW2 := lt_pred hsW1)))); go_wp2_with (first | (go_at_call 121; refine (c_spec_RuneText _ _ (by omega)).mono ?_; rintro e w9 ⟨rfl, hb9⟩)); exact ⟨rfl, rfl, bel⟩))
                apply Exists.intro
                refine And.intro ?_ ?_
                · (intro W hW; (try simp only [Act.put, List.setIfInBounds_toArray, List.set_cons_zero, List.set_cons_succ]); first | (go_wp2_with fail; exact ⟨rfl, rfl, Below.refl _ _⟩))
                apply Exists.intro
                refine And.intro ?_ ?_
                · (intro W hW; (try simp only [Act.put, List.setIfInBounds_toArray, List.set_cons_zero, List.set_cons_succ]); first | (go_wp2_with fail; exact ⟨rfl, rfl, Below.refl _ _⟩))
                apply Exists.intro
                refine And.intro ?_ ?_
                · (intro W hW; (try simp only [Act.put, List.setIfInBounds_toArray, List.set_cons_zero, List.set_cons_succ]); first | (go_wp2_with fail; exact ⟨rfl, rfl, Below.refl _ _⟩))
                apply Exists.intro
                refine And.intro ?_ ?_
                · (intro W hW; (try simp only [Act.put, List.setIfInBounds_toArray, List.set_cons_zero, List.set_cons_succ]); first | (go_wp2_with fail; exact ⟨rfl, rfl, Below.refl _ _⟩))
                apply Exists.intro
                refine And.intro ?_ ?_
                · (intro W hW; (try simp only [Act.put, List.setIfInBounds_toArray, List.set_cons_zero, List.set_cons_succ]); first | (go_wp2_with fail; exact ⟨rfl, rfl, Below.refl _ _⟩))
                apply Exists.intro
                refine And.intro ?_ ?_
                · (intro W hW; (try simp only [Act.put, List.setIfInBounds_toArray, List.set_cons_zero, List.set_cons_succ]); first | (go_wp2_with fail; exact ⟨rfl, rfl, Below.refl _ _⟩))
                apply Exists.intro
                refine And.intro ?_ ?_
                · (intro W hW; (try simp only [Act.put, List.setIfInBounds_toArray, List.set_cons_zero, List.set_cons_succ]); first | (go_wp2_with fail; exact ⟨rfl, rfl, Below.refl _ _⟩))
                intro w1 hb
                (first | (have hcu2 := Cum.join hcu hb; (try clear hcu); (try clear hc); (try clear hfz); (try clear hsz); (try clear hs0); (try clear hs1); (try clear hs2); (try clear hs3); (try clear hs4); ) | have hcu2 := Cum.mk hb); have hcu := hcu2; clear hcu2; obtain ⟨hc, hfz⟩ := bcell hcu.h; have hsz := hcu.h.size; (try simp at hsz); (try have hs0 := lt_of_succ_le hsz); (try (have hs1 := lt_pred hsz; (try (have hs2 := lt_pred hs1; (try (have hs3 := lt_pred hs2; (try have hs4 := lt_pred hs3)))))))
                (try simp only [Act.put, List.setIfInBounds_toArray, List.set_cons_zero, List.set_cons_succ])
                (try simp only [List.drop_succ_cons, List.drop_nil])
                go_wp2_with fail
                go_ret2
                exact ⟨by rw [Hf.out]; rfl, bel⟩
              · have hE : ((textB g).toList == (s.extract i p3).toList) = false := beq_eq_false_iff_ne.2 (fun e => heq (toL_inj e))
                have Hf := Lib.hid (show runeB s i = (0, -1) from rune_no3 s i hii (by have := HB.out.1; have := HC.out; omega) (by have := HB.out.1; have := HC.out; omega) (fun h => heq (by have h9 := h.2.2.2; rw [← HB.out.1, ← HB.out.2.1, ← HB.out.2.2.1, ← HB.out.2.2.2, ← hG.out, ← HP.out] at h9; exact h9)))
                clear heq
                go_wp2_with fail
                refine wp_region_det 9 (by kernel_rfl) (by kernel_rfl) (by decide) ?_
                apply Exists.intro
                refine And.intro ?_ ?_
                · (intro W hW; (try simp only [Act.put, List.setIfInBounds_toArray, List.set_cons_zero, List.set_cons_succ]); first | (go_wp2_with fail; exact ⟨rfl, rfl, Below.refl _ _⟩))
                apply Exists.intro
                refine And.intro ?_ ?_
                · (intro W hW; (try simp only [Act.put, List.setIfInBounds_toArray, List.set_cons_zero, List.set_cons_succ]); first | (obtain ⟨hcW, hfW⟩ := bcell hW; have hsW := hW.size; (try simp at hsW); (try have hsW0 := lt_of_succ_le hsW); (try (have hsW1 := lt_pred hsW; (try (have hsW2 := lt_pred hsW1)))); go_wp2_with (first | (go_at_call 121; refine (c_spec_RuneText _ _ (by omega)).mono ?_; rintro e w9 ⟨rfl, hb9⟩)); exact ⟨rfl, rfl, bel⟩))
                apply Exists.intro
                refine And.intro ?_ ?_
                · (intro W hW; (try simp only [Act.put, List.setIfInBounds_toArray, List.set_cons_zero, List.set_cons_succ]); first | (go_wp2_with fail; exact ⟨rfl, rfl, Below.refl _ _⟩))
                apply Exists.intro
                refine And.intro ?_ ?_
                · (intro W hW; (try simp only [Act.put, List.setIfInBounds_toArray, List.set_cons_zero, List.set_cons_succ]); first | (go_wp2_with fail; exact ⟨rfl, rfl, Below.refl _ _⟩))
                apply Exists.intro
                refine And.intro ?_ ?_
                · (intro W hW; (try simp only [Act.put, List.setIfInBounds_toArray, List.set_cons_zero, List.set_cons_succ]); first | (go_wp2_with fail; exact ⟨rfl, rfl, Below.refl _ _⟩))
                apply Exists.intro
                refine And.intro ?_ ?_
                · (intro W hW; (try simp only [Act.put, List.setIfInBounds_toArray, List.set_cons_zero, List.set_cons_succ]); first | (go_wp2_with fail; exact ⟨rfl, rfl, Below.refl _ _⟩))
                apply Exists.intro
                refine And.intro ?_ ?_
                · (intro W hW; (try simp only [Act.put, List.setIfInBounds_toArray, List.set_cons_zero, List.set_cons_succ]); first | (go_wp2_with fail; exact ⟨rfl, rfl, Below.refl _ _⟩))
                apply Exists.intro
                refine And.intro ?_ ?_
                · (intro W hW; (try simp only [Act.put, List.setIfInBounds_toArray, List.set_cons_zero, List.set_cons_succ]); first | (go_wp2_with fail; exact ⟨rfl, rfl, Below.refl _ _⟩))
                apply Exists.intro
                refine And.intro ?_ ?_
                · (intro W hW; (try simp only [Act.put, List.setIfInBounds_toArray, List.set_cons_zero, List.set_cons_succ]); first | (go_wp2_with fail; exact ⟨rfl, rfl, Below.refl _ _⟩))
                intro w1 hb
                (first | (have hcu2 := Cum.join hcu hb; (try clear hcu); (try clear hc); (try clear hfz); (try clear hsz); (try clear hs0); (try clear hs1); (try clear hs2); (try clear hs3); (try clear hs4); ) | have hcu2 := Cum.mk hb); have hcu := hcu2; clear hcu2; obtain ⟨hc, hfz⟩ := bcell hcu.h; have hsz := hcu.h.size; (try simp at hsz); (try have hs0 := lt_of_succ_le hsz); (try (have hs1 := lt_pred hsz; (try (have hs2 := lt_pred hs1; (try (have hs3 := lt_pred hs2; (try have hs4 := lt_pred hs3)))))))
                (try simp only [Act.put, List.setIfInBounds_toArray, List.set_cons_zero, List.set_cons_succ])
                (try simp only [List.drop_succ_cons, List.drop_nil])
                go_wp2_with fail
                go_ret2
                exact ⟨by rw [Hf.out]; rfl, bel⟩
      · have d3 : decide ((224 : Int) ≤ b0) = false := decide_eq_false c3
        by_cases c2 : (192 : Int) ≤ b0
        · have HC := Lib.hid (show 192 ≤ b0 ∧ b0 < 224 by omega)
          clear c4 c3
          by_cases hw : (s.size : Int) < i + 2
          · have Hf := Lib.hid (show runeB s i = (0, -1) from rune_no2 s i hii (by have := HB.out.1; have := HC.out; omega) (by have := HB.out.1; have := HC.out; omega) (fun h => by have := h.1; omega))
            skip
            go_enter Tryz.func92, Tryz.ntmps92
            go_wp2_with (first | (go_at_call 59; refine (c_spec_l01In _ _ _ _).mono ?_; rintro e w' ⟨rfl, rfl⟩))
            go_ret2
            exact ⟨by rw [Hf.out]; rfl, bel⟩
          · obtain ⟨p1, hp1⟩ : ∃ p : Nat, p = i + 1 := ⟨_, rfl⟩
            have hpl1 : p1 < s.size := by omega
            have hpi1 : (p1 : Int) < s.size := by omega
            have hpe1 : (i : Int) + 1 = p1 := by omega
            have hx1 : (s[p1]'hpl1).toNat = b1 := by rw [HB.out.2.1, ← hp1]; exact get_at s p1 hpl1
            clear hp1
            obtain ⟨p2, hp2⟩ : ∃ p : Nat, p = i + 2 := ⟨_, rfl⟩
            have hpe2 : (i : Int) + 2 = p2 := by omega
            have hpk2 : (i : Int) ≤ p2 := by omega
            have hpm2 : (p2 : Int) ≤ s.size := by omega
            have hpd2 : decide (s.size < p2) = false := decide_eq_false (by omega)
            have HP := Lib.hid hp2
            clear hp2 hw
            go_enter Tryz.func92, Tryz.ntmps92
            go_wp2_with (first | (go_at_call 59; refine (c_spec_l01In _ _ _ _).mono ?_; rintro e w' ⟨rfl, rfl⟩))
            go_loopw [8, 9] (fun s8 s9 wr => ∃ (k : Nat) (z : Int), 1 ≤ k ∧ k ≤ 2 ∧ z = k ∧ s9 = .int .i64 z ∧ s8 = .int .i64 (gathN b0 b1 b2 b3 k : Nat) ∧ (2 ≤ k → contN b1 = true) ∧ wr = w) (fun _ s9 _ => 2 - (Lib.intOf s9).toNat)
            case atStart =>
              have hp : ((gathN b0 b1 b2 b3 1 : Nat) : Int) = (b0 : Int) - 192 := by have := HC.out; show ((partN b0 : Nat) : Int) = _; unfold partN; (repeat' split) <;> omega
              exact ⟨1, 1, by omega, by omega, rfl, rfl, by rw [hp], fun h => absurd h (by omega), rfl⟩
            case round =>
              obtain ⟨k, z, hk1, hk2, hz, rfl, rfl, q1, rfl⟩ := hrel
              rcases (show k = 1 ∨ k = 2 by omega) with rfl | rfl
              · obtain rfl : z = 1 := by omega
                clear hz
                clear q1
                obtain ⟨g, hg⟩ : ∃ g, g = gathN b0 b1 b2 b3 1 := ⟨_, rfl⟩
                have hgb : (g : Int) < 134217728 := by rw [hg]; have := gath_lt b0 b1 b2 b3 1 (by omega) (by omega) (by omega) (by omega); omega
                have hgl : contN b1 = true → ((gathN b0 b1 b2 b3 2 : Nat) : Int) = 64 * g + b1 - 128 := fun h => by have h9 := h; unfold contN at h9; simp at h9; rw [hg]; show ((64 * gathN b0 b1 b2 b3 1 + b1 - 128 : Nat) : Int) = _; omega
                have hG := Lib.hid hg
                rw [← hg]
                clear hg
                have hc := inB_cont b1
                rcases hq : contN b1 with _ | _
                · rw [hq] at hc
                  have Hf := Lib.hid (show runeB s i = (0, -1) from rune_no2 s i hii (by have := HB.out.1; have := HC.out; omega) (by have := HB.out.1; have := HC.out; omega) (fun h => by have := h.2.1; rw [← HB.out.2.1, hq] at this; cases this))
                  clear hgl
                  go_wp2_with (first | (go_at_call 59; refine (c_spec_l01In _ _ _ _).mono ?_; rintro e w' ⟨rfl, rfl⟩))
                  go_ret2
                  exact ⟨by rw [Hf.out]; rfl, bel⟩
                · rw [hq] at hc
                  have hgl2 := hgl hq
                  clear hgl
                  have Hgl := Lib.hid hgl2
                  clear hgl2
                  go_wp2_with (first | (go_at_call 59; refine (c_spec_l01In _ _ _ _).mono ?_; rintro e w' ⟨rfl, rfl⟩))
                  go_roundw
                  case rel => exact ⟨2, 2, by omega, by omega, rfl, by first | rfl | go_num, by rw [Hgl.out], (by first | exact fun _ => hq | exact fun _ => True.intro | exact True.intro), (by first | rfl | exact True.intro)⟩
                  case measure => simp [Lib.intOf]
              · obtain rfl : z = 2 := by omega
                clear hz
                have e1 := Lib.hid (q1 (by omega))
                clear q1
                obtain ⟨g, hg⟩ : ∃ g, g = gathN b0 b1 b2 b3 2 := ⟨_, rfl⟩
                have hgb : (g : Int) < 134217728 := by rw [hg]; have := gath_lt b0 b1 b2 b3 2 (by omega) (by omega) (by omega) (by omega); omega
                have hG := Lib.hid hg
                rw [← hg]
                clear hg
                by_cases heq : textB g = s.extract i p2
                · have hE : ((textB g).toList == (s.extract i p2).toList) = true := by simp [heq]
                  have Hf := Lib.hid (show runeB s i = ((g : Int), (p2 : Int)) from by rw [← hpe2]; have h9 := rune_ok2 s i hii (by have := HB.out.1; have := HC.out; omega) (by have := HB.out.1; have := HC.out; omega) ⟨by have := HP.out; omega, (by rw [← HB.out.2.1]; exact e1.out), by rw [← HB.out.1, ← HB.out.2.1, ← HB.out.2.2.1, ← HB.out.2.2.2, ← hG.out, ← HP.out]; exact heq⟩; rw [← HB.out.1, ← HB.out.2.1, ← HB.out.2.2.1, ← HB.out.2.2.2, ← hG.out] at h9; exact h9)
                  clear heq
                  go_wp2_with fail
                  refine wp_region_det 9 (by kernel_rfl) (by kernel_rfl) (by decide) ?_
                  apply Exists.intro
                  refine And.intro ?_ ?_
                  · (intro W hW; (try simp only [Act.put, List.setIfInBounds_toArray, List.set_cons_zero, List.set_cons_succ]); first | (go_wp2_with fail; exact ⟨rfl, rfl, Below.refl _ _⟩))
                  apply Exists.intro
                  refine And.intro ?_ ?_
                  · (intro W hW; (try simp only [Act.put, List.setIfInBounds_toArray, List.set_cons_zero, List.set_cons_succ]); first | (obtain ⟨hcW, hfW⟩ := bcell hW; have hsW := hW.size; (try simp at hsW); (try have hsW0 := lt_of_succ_le hsW); (try (have hsW1 := lt_pred hsW; (try (have hsW2 := lt_pred hsW1)))); go_wp2_with (first | (go_at_call 121; refine (c_spec_RuneText _ _ (by omega)).mono ?_; rintro e w9 ⟨rfl, hb9⟩)); exact ⟨rfl, rfl, bel⟩))
                  apply Exists.intro
                  refine And.intro ?_ ?_
                  · (intro W hW; (try simp only [Act.put, List.setIfInBounds_toArray, List.set_cons_zero, List.set_cons_succ]); first | (go_wp2_with fail; exact ⟨rfl, rfl, Below.refl _ _⟩))
                  apply Exists.intro
                  refine And.intro ?_ ?_
                  · (intro W hW; (try simp only [Act.put, List.setIfInBounds_toArray, List.set_cons_zero, List.set_cons_succ]); first | (go_wp2_with fail; exact ⟨rfl, rfl, Below.refl _ _⟩))
                  apply Exists.intro
                  refine And.intro ?_ ?_
                  · (intro W hW; (try simp only [Act.put, List.setIfInBounds_toArray, List.set_cons_zero, List.set_cons_succ]); first | (go_wp2_with fail; exact ⟨rfl, rfl, Below.refl _ _⟩))
                  apply Exists.intro
                  refine And.intro ?_ ?_
                  · (intro W hW; (try simp only [Act.put, List.setIfInBounds_toArray, List.set_cons_zero, List.set_cons_succ]); first | (go_wp2_with fail; exact ⟨rfl, rfl, Below.refl _ _⟩))
                  apply Exists.intro
                  refine And.intro ?_ ?_
                  · (intro W hW; (try simp only [Act.put, List.setIfInBounds_toArray, List.set_cons_zero, List.set_cons_succ]); first | (go_wp2_with fail; exact ⟨rfl, rfl, Below.refl _ _⟩))
                  apply Exists.intro
                  refine And.intro ?_ ?_
                  · (intro W hW; (try simp only [Act.put, List.setIfInBounds_toArray, List.set_cons_zero, List.set_cons_succ]); first | (go_wp2_with fail; exact ⟨rfl, rfl, Below.refl _ _⟩))
                  apply Exists.intro
                  refine And.intro ?_ ?_
                  · (intro W hW; (try simp only [Act.put, List.setIfInBounds_toArray, List.set_cons_zero, List.set_cons_succ]); first | (go_wp2_with fail; exact ⟨rfl, rfl, Below.refl _ _⟩))
                  intro w1 hb
                  (first | (have hcu2 := Cum.join hcu hb; (try clear hcu); (try clear hc); (try clear hfz); (try clear hsz); (try clear hs0); (try clear hs1); (try clear hs2); (try clear hs3); (try clear hs4); ) | have hcu2 := Cum.mk hb); have hcu := hcu2; clear hcu2; obtain ⟨hc, hfz⟩ := bcell hcu.h; have hsz := hcu.h.size; (try simp at hsz); (try have hs0 := lt_of_succ_le hsz); (try (have hs1 := lt_pred hsz; (try (have hs2 := lt_pred hs1; (try (have hs3 := lt_pred hs2; (try have hs4 := lt_pred hs3)))))))
                  (try simp only [Act.put, List.setIfInBounds_toArray, List.set_cons_zero, List.set_cons_succ])
                  (try simp only [List.drop_succ_cons, List.drop_nil])
                  go_wp2_with fail
                  go_ret2
                  exact ⟨by rw [Hf.out]; rfl, bel⟩
                · have hE : ((textB g).toList == (s.extract i p2).toList) = false := beq_eq_false_iff_ne.2 (fun e => heq (toL_inj e))
                  have Hf := Lib.hid (show runeB s i = (0, -1) from rune_no2 s i hii (by have := HB.out.1; have := HC.out; omega) (by have := HB.out.1; have := HC.out; omega) (fun h => heq (by have h9 := h.2.2; rw [← HB.out.1, ← HB.out.2.1, ← HB.out.2.2.1, ← HB.out.2.2.2, ← hG.out, ← HP.out] at h9; exact h9)))
                  clear heq
                  go_wp2_with fail
                  refine wp_region_det 9 (by kernel_rfl) (by kernel_rfl) (by decide) ?_
                  apply Exists.intro
                  refine And.intro ?_ ?_
                  · (intro W hW; (try simp only [Act.put, List.setIfInBounds_toArray, List.set_cons_zero, List.set_cons_succ]); first | (go_wp2_with fail; exact ⟨rfl, rfl, Below.refl _ _⟩))
                  apply Exists.intro
                  refine And.intro ?_ ?_
                  · (intro W hW; (try simp only [Act.put, List.setIfInBounds_toArray, List.set_cons_zero, List.set_cons_succ]); first | (obtain ⟨hcW, hfW⟩ := bcell hW; have hsW := hW.size; (try simp at hsW); (try have hsW0 := lt_of_succ_le hsW); (try (have hsW1 := lt_pred hsW; (try (have hsW2 := lt_pred hsW1)))); go_wp2_with (first | (go_at_call 121; refine (c_spec_RuneText _ _ (by omega)).mono ?_; rintro e w9 ⟨rfl, hb9⟩)); exact ⟨rfl, rfl, bel⟩))
                  apply Exists.intro
                  refine And.intro ?_ ?_
                  · (intro W hW; (try simp only [Act.put, List.setIfInBounds_toArray, List.set_cons_zero, List.set_cons_succ]); first | (go_wp2_with fail; exact ⟨rfl, rfl, Below.refl _ _⟩))
                  apply Exists.intro
                  refine And.intro ?_ ?_
                  · (intro W hW; (try simp only [Act.put, List.setIfInBounds_toArray, List.set_cons_zero, List.set_cons_succ]); first | (go_wp2_with fail; exact ⟨rfl, rfl, Below.refl _ _⟩))
                  apply Exists.intro
                  refine And.intro ?_ ?_
                  · (intro W hW; (try simp only [Act.put, List.setIfInBounds_toArray, List.set_cons_zero, List.set_cons_succ]); first | (go_wp2_with fail; exact ⟨rfl, rfl, Below.refl _ _⟩))
                  apply Exists.intro
                  refine And.intro ?_ ?_
                  · (intro W hW; (try simp only [Act.put, List.setIfInBounds_toArray, List.set_cons_zero, List.set_cons_succ]); first | (go_wp2_with fail; exact ⟨rfl, rfl, Below.refl _ _⟩))
                  apply Exists.intro
                  refine And.intro ?_ ?_
                  · (intro W hW; (try simp only [Act.put, List.setIfInBounds_toArray, List.set_cons_zero, List.set_cons_succ]); first | (go_wp2_with fail; exact ⟨rfl, rfl, Below.refl _ _⟩))
                  apply Exists.intro
                  refine And.intro ?_ ?_
                  · (intro W hW; (try simp only [Act.put, List.setIfInBounds_toArray, List.set_cons_zero, List.set_cons_succ]); first | (go_wp2_with fail; exact ⟨rfl, rfl, Below.refl _ _⟩))
                  apply Exists.intro
                  refine And.intro ?_ ?_
                  · (intro W hW; (try simp only [Act.put, List.setIfInBounds_toArray, List.set_cons_zero, List.set_cons_succ]); first | (go_wp2_with fail; exact ⟨rfl, rfl, Below.refl _ _⟩))
                  intro w1 hb
                  (first | (have hcu2 := Cum.join hcu hb; (try clear hcu); (try clear hc); (try clear hfz); (try clear hsz); (try clear hs0); (try clear hs1); (try clear hs2); (try clear hs3); (try clear hs4); ) | have hcu2 := Cum.mk hb); have hcu := hcu2; clear hcu2; obtain ⟨hc, hfz⟩ := bcell hcu.h; have hsz := hcu.h.size; (try simp at hsz); (try have hs0 := lt_of_succ_le hsz); (try (have hs1 := lt_pred hsz; (try (have hs2 := lt_pred hs1; (try (have hs3 := lt_pred hs2; (try have hs4 := lt_pred hs3)))))))
                  (try simp only [Act.put, List.setIfInBounds_toArray, List.set_cons_zero, List.set_cons_succ])
                  (try simp only [List.drop_succ_cons, List.drop_nil])
                  go_wp2_with fail
                  go_ret2
                  exact ⟨by rw [Hf.out]; rfl, bel⟩
        · have d2 : decide ((192 : Int) ≤ b0) = false := decide_eq_false c2
          have HC := Lib.hid (show 0 ≤ b0 ∧ b0 < 192 by omega)
          clear c4 c3 c2
          by_cases hw : (s.size : Int) < i + 1
          · have Hf := Lib.hid (show runeB s i = (0, -1) from rune_no1 s i hii (by have := HB.out.1; have := HC.out; omega) (fun h => by have := h.1; omega))
            skip
            go_enter Tryz.func92, Tryz.ntmps92
            go_wp2_with (first | (go_at_call 59; refine (c_spec_l01In _ _ _ _).mono ?_; rintro e w' ⟨rfl, rfl⟩))
            go_ret2
            exact ⟨by rw [Hf.out]; rfl, bel⟩
          · obtain ⟨p1, hp1⟩ : ∃ p : Nat, p = i + 1 := ⟨_, rfl⟩
            have hpe1 : (i : Int) + 1 = p1 := by omega
            have hpk1 : (i : Int) ≤ p1 := by omega
            have hpm1 : (p1 : Int) ≤ s.size := by omega
            have hpd1 : decide (s.size < p1) = false := decide_eq_false (by omega)
            have HP := Lib.hid hp1
            clear hp1 hw
            go_enter Tryz.func92, Tryz.ntmps92
            go_wp2_with (first | (go_at_call 59; refine (c_spec_l01In _ _ _ _).mono ?_; rintro e w' ⟨rfl, rfl⟩))
            go_loopw [8, 9] (fun s8 s9 wr => ∃ (k : Nat) (z : Int), 1 ≤ k ∧ k ≤ 1 ∧ z = k ∧ s9 = .int .i64 z ∧ s8 = .int .i64 (gathN b0 b1 b2 b3 k : Nat) ∧ wr = w) (fun _ s9 _ => 1 - (Lib.intOf s9).toNat)
            case atStart =>
              have hp : ((gathN b0 b1 b2 b3 1 : Nat) : Int) = (b0 : Int) := by have := HC.out; show ((partN b0 : Nat) : Int) = _; unfold partN; (repeat' split) <;> omega
              exact ⟨1, 1, by omega, by omega, rfl, rfl, by rw [hp], rfl⟩
            case round =>
              obtain ⟨k, z, hk1, hk2, hz, rfl, rfl, rfl⟩ := hrel
              obtain rfl : k = 1 := by omega
              obtain rfl : z = 1 := by omega
              clear hz
              obtain ⟨g, hg⟩ : ∃ g, g = gathN b0 b1 b2 b3 1 := ⟨_, rfl⟩
              have hgb : (g : Int) < 134217728 := by rw [hg]; have := gath_lt b0 b1 b2 b3 1 (by omega) (by omega) (by omega) (by omega); omega
              have hG := Lib.hid hg
              rw [← hg]
              clear hg
              have HG1 := Lib.hid (show g = b0 by rw [hG.out]; show partN b0 = b0; have := HC.out; unfold partN; rw [if_neg (by omega), if_neg (by omega), if_neg (by omega)])
              by_cases heq : textB g = s.extract i p1
              · have hE : ((textB g).toList == (s.extract i p1).toList) = true := by simp [heq]
                have Hf := Lib.hid (show runeB s i = ((g : Int), (p1 : Int)) from by rw [← hpe1]; have h9 := rune_ok1 s i hii (by have := HB.out.1; have := HC.out; omega) ⟨by have := HP.out; omega, by rw [← HB.out.1, ← HP.out, ← HG1.out]; exact heq⟩; rw [← HB.out.1, ← HG1.out] at h9; exact h9)
                clear heq
                go_wp2_with fail
                refine wp_region_det 9 (by kernel_rfl) (by kernel_rfl) (by decide) ?_
                apply Exists.intro
                refine And.intro ?_ ?_
                · (intro W hW; (try simp only [Act.put, List.setIfInBounds_toArray, List.set_cons_zero, List.set_cons_succ]); first | (go_wp2_with fail; exact ⟨rfl, rfl, Below.refl _ _⟩))
                apply Exists.intro
                refine And.intro ?_ ?_
                · (intro W hW; (try simp only [Act.put, List.setIfInBounds_toArray, List.set_cons_zero, List.set_cons_succ]); first | (obtain ⟨hcW, hfW⟩ := bcell hW; have hsW := hW.size; (try simp at hsW); (try have hsW0 := lt_of_succ_le hsW); (try (have hsW1 := lt_pred hsW; (try (have hsW2 := lt_pred hsW1)))); go_wp2_with (first | (go_at_call 121; refine (c_spec_RuneText _ _ (by omega)).mono ?_; rintro e w9 ⟨rfl, hb9⟩)); exact ⟨rfl, rfl, bel⟩))
                apply Exists.intro
                refine And.intro ?_ ?_
                · (intro W hW; (try simp only [Act.put, List.setIfInBounds_toArray, List.set_cons_zero, List.set_cons_succ]); first | (go_wp2_with fail; exact ⟨rfl, rfl, Below.refl _ _⟩))
                apply Exists.intro
                refine And.intro ?_ ?_
                · (intro W hW; (try simp only [Act.put, List.setIfInBounds_toArray, List.set_cons_zero, List.set_cons_succ]); first | (go_wp2_with fail; exact ⟨rfl, rfl, Below.refl _ _⟩))
                apply Exists.intro
                refine And.intro ?_ ?_
                · (intro W hW; (try simp only [Act.put, List.setIfInBounds_toArray, List.set_cons_zero, List.set_cons_succ]); first | (go_wp2_with fail; exact ⟨rfl, rfl, Below.refl _ _⟩))
                apply Exists.intro
                refine And.intro ?_ ?_
                · (intro W hW; (try simp only [Act.put, List.setIfInBounds_toArray, List.set_cons_zero, List.set_cons_succ]); first | (go_wp2_with fail; exact ⟨rfl, rfl, Below.refl _ _⟩))
                apply Exists.intro
                refine And.intro ?_ ?_
                · (intro W hW; (try simp only [Act.put, List.setIfInBounds_toArray, List.set_cons_zero, List.set_cons_succ]); first | (go_wp2_with fail; exact ⟨rfl, rfl, Below.refl _ _⟩))
                apply Exists.intro
                refine And.intro ?_ ?_
                · (intro W hW; (try simp only [Act.put, List.setIfInBounds_toArray, List.set_cons_zero, List.set_cons_succ]); first | (go_wp2_with fail; exact ⟨rfl, rfl, Below.refl _ _⟩))
                apply Exists.intro
                refine And.intro ?_ ?_
                · (intro W hW; (try simp only [Act.put, List.setIfInBounds_toArray, List.set_cons_zero, List.set_cons_succ]); first | (go_wp2_with fail; exact ⟨rfl, rfl, Below.refl _ _⟩))
                intro w1 hb
                (first | (have hcu2 := Cum.join hcu hb; (try clear hcu); (try clear hc); (try clear hfz); (try clear hsz); (try clear hs0); (try clear hs1); (try clear hs2); (try clear hs3); (try clear hs4); ) | have hcu2 := Cum.mk hb); have hcu := hcu2; clear hcu2; obtain ⟨hc, hfz⟩ := bcell hcu.h; have hsz := hcu.h.size; (try simp at hsz); (try have hs0 := lt_of_succ_le hsz); (try (have hs1 := lt_pred hsz; (try (have hs2 := lt_pred hs1; (try (have hs3 := lt_pred hs2; (try have hs4 := lt_pred hs3)))))))
                (try simp only [Act.put, List.setIfInBounds_toArray, List.set_cons_zero, List.set_cons_succ])
                (try simp only [List.drop_succ_cons, List.drop_nil])
                go_wp2_with fail
                go_ret2
                exact ⟨by rw [Hf.out]; rfl, bel⟩
              · have hE : ((textB g).toList == (s.extract i p1).toList) = false := beq_eq_false_iff_ne.2 (fun e => heq (toL_inj e))
                have Hf := Lib.hid (show runeB s i = (0, -1) from rune_no1 s i hii (by have := HB.out.1; have := HC.out; omega) (fun h => heq (by have h9 := h.2; rw [← HB.out.1, ← HP.out, ← HG1.out] at h9; exact h9)))
                clear heq
                go_wp2_with fail
                refine wp_region_det 9 (by kernel_rfl) (by kernel_rfl) (by decide) ?_
                apply Exists.intro
                refine And.intro ?_ ?_
                · (intro W hW; (try simp only [Act.put, List.setIfInBounds_toArray, List.set_cons_zero, List.set_cons_succ]); first | (go_wp2_with fail; exact ⟨rfl, rfl, Below.refl _ _⟩))
                apply Exists.intro
                refine And.intro ?_ ?_
                · (intro W hW; (try simp only [Act.put, List.setIfInBounds_toArray, List.set_cons_zero, List.set_cons_succ]); first | (obtain ⟨hcW, hfW⟩ := bcell hW; have hsW := hW.size; (try simp at hsW); (try have hsW0 := lt_of_succ_le hsW); (try (have hsW1 := lt_pred hsW; (try (have hsW2 := lt_pred hsW1)))); go_wp2_with (first | (go_at_call 121; refine (c_spec_RuneText _ _ (by omega)).mono ?_; rintro e w9 ⟨rfl, hb9⟩)); exact ⟨rfl, rfl, bel⟩))
                apply Exists.intro
                refine And.intro ?_ ?_
                · (intro W hW; (try simp only [Act.put, List.setIfInBounds_toArray, List.set_cons_zero, List.set_cons_succ]); first | (go_wp2_with fail; exact ⟨rfl, rfl, Below.refl _ _⟩))
                apply Exists.intro
                refine And.intro ?_ ?_
                · (intro W hW; (try simp only [Act.put, List.setIfInBounds_toArray, List.set_cons_zero, List.set_cons_succ]); first | (go_wp2_with fail; exact ⟨rfl, rfl, Below.refl _ _⟩))
                apply Exists.intro
                refine And.intro ?_ ?_
                · (intro W hW; (try simp only [Act.put, List.setIfInBounds_toArray, List.set_cons_zero, List.set_cons_succ]); first | (go_wp2_with fail; exact ⟨rfl, rfl, Below.refl _ _⟩))
                apply Exists.intro
                refine And.intro ?_ ?_
                · (intro W hW; (try simp only [Act.put, List.setIfInBounds_toArray, List.set_cons_zero, List.set_cons_succ]); first | (go_wp2_with fail; exact ⟨rfl, rfl, Below.refl _ _⟩))
                apply Exists.intro
                refine And.intro ?_ ?_
                · (intro W hW; (try simp only [Act.put, List.setIfInBounds_toArray, List.set_cons_zero, List.set_cons_succ]); first | (go_wp2_with fail; exact ⟨rfl, rfl, Below.refl _ _⟩))
                apply Exists.intro
                refine And.intro ?_ ?_
                · (intro W hW; (try simp only [Act.put, List.setIfInBounds_toArray, List.set_cons_zero, List.set_cons_succ]); first | (go_wp2_with fail; exact ⟨rfl, rfl, Below.refl _ _⟩))
                apply Exists.intro
                refine And.intro ?_ ?_
                · (intro W hW; (try simp only [Act.put, List.setIfInBounds_toArray, List.set_cons_zero, List.set_cons_succ]); first | (go_wp2_with fail; exact ⟨rfl, rfl, Below.refl _ _⟩))
                intro w1 hb
                (first | (have hcu2 := Cum.join hcu hb; (try clear hcu); (try clear hc); (try clear hfz); (try clear hsz); (try clear hs0); (try clear hs1); (try clear hs2); (try clear hs3); (try clear hs4); ) | have hcu2 := Cum.mk hb); have hcu := hcu2; clear hcu2; obtain ⟨hc, hfz⟩ := bcell hcu.h; have hsz := hcu.h.size; (try simp at hsz); (try have hs0 := lt_of_succ_le hsz); (try (have hs1 := lt_pred hsz; (try (have hs2 := lt_pred hs1; (try (have hs3 := lt_pred hs2; (try have hs4 := lt_pred hs3)))))))
                (try simp only [Act.put, List.setIfInBounds_toArray, List.set_cons_zero, List.set_cons_succ])
                (try simp only [List.drop_succ_cons, List.drop_nil])
                go_wp2_with fail
                go_ret2
                exact ⟨by rw [Hf.out]; rfl, bel⟩
  · have Hf := Lib.hid (show runeB s i = (0, -1) by unfold runeB; rw [if_neg (by omega)])
    have hin : inB (i : Int) 0 ((s.size : Int) - 1) = false := by unfold inB; simp; omega
    go_enter Tryz.func92, Tryz.ntmps92
    go_wp2_with (first | (go_at_call 59; refine (c_spec_l01In _ _ _ _).mono ?_; rintro e w' ⟨rfl, rfl⟩))
    go_ret2
    exact ⟨by rw [Hf.out]; rfl, bel⟩
end Go.Proofs.YtffelpdefjkeaaaGreatDoor
