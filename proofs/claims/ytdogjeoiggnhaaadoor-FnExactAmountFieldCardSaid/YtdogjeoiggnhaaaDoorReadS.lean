/- The reference's ReadInt: the number that a text tells in canonical figures. No conditions. -/
import Derived.Test.YtdogjeoiggnhaaaDoorDig
namespace Go.Proofs.YtdogjeoiggnhaaaDoor
open Go.RowKit Go.Lib

def readV (s : ByteArray) : Int := match readI s with | some u => (u : Int) | none => 0
def readOk (s : ByteArray) : Bool := (readI s).isSome
theorem read_none {s : ByteArray} (h : readI s = none) : readV s = 0 ∧ readOk s = false := by unfold readV readOk; rw [h]; exact ⟨rfl, rfl⟩
theorem read_some {s : ByteArray} {u : Nat} (h : readI s = some u) : readV s = u ∧ readOk s = true := by unfold readV readOk; rw [h]; exact ⟨rfl, rfl⟩
theorem readI_bad {s : ByteArray} {c : UInt8} (h : c ∈ s.data.toList) (hc : ¬ figB c) : readI s = none := by
  rcases h1 : readI s with _ | u
  · rfl
  · exact absurd (readI_figs h1 c h) hc
theorem readI_long {s : ByteArray} (h : 19 < s.size) : readI s = none := by
  rcases h1 : readI s with _ | u
  · rfl
  · have := (readI_len h1).1; omega
theorem readI_big {s : ByteArray} {j : Nat} (h : 9223372036854775807 < valL 0 (s.data.toList.take j)) : readI s = none := by
  unfold readI
  rw [if_neg]
  intro hc
  have h1 := valL_app (s.data.toList.take j) (s.data.toList.drop j) 0
  rw [List.take_append_drop] at h1
  have h2 := valL_ge (s.data.toList.drop j) (valL 0 (s.data.toList.take j))
  omega
theorem readI_end {s : ByteArray} (h : valL 0 s.data.toList ≤ 9223372036854775807) : readI s = if decS (valL 0 s.data.toList : Int) = s then some (valL 0 s.data.toList) else none := by
  by_cases hd : decS (valL 0 s.data.toList : Int) = s
  · rw [if_pos hd]; exact readI_of h hd
  · rw [if_neg hd]
    rcases h1 : readI s with _ | u
    · rfl
    · obtain ⟨_, h2, h3⟩ := readI_some h1
      rw [h3, dec_val] at hd
      exact absurd h2 hd
theorem take_get {s : ByteArray} {j : Nat} (h : j < s.size) : s.data.toList.take (j + 1) = s.data.toList.take j ++ [s.get! j] := by
  have h2 : j < s.data.toList.length := by rw [Array.length_toList]; exact h
  rw [List.take_add_one, List.getElem?_eq_getElem h2]
  congr 1
  rw [Array.getElem_toList]
  show [s.data[j]] = [s.data[j]!]
  rw [getElem!_pos s.data j h]
theorem mem_get {s : ByteArray} {j : Nat} (h : j < s.size) : s.get! j ∈ s.data.toList := by
  have := take_get h
  exact List.mem_of_mem_take (i := j + 1) (by rw [this]; simp)
theorem valL_step {s : ByteArray} {j : Nat} (h : j < s.size) : valL 0 (s.data.toList.take (j + 1)) = valL 0 (s.data.toList.take j) * 10 + ((s.get! j).toNat - 48) := by
  rw [take_get h, valL_app, valL_cons, valL_nil]
theorem get_byte (s : ByteArray) (i : Nat) (h : i < s.size) : (s[i]'h).toNat = (s.get! i).toNat := by
  show _ = (s.data[i]!).toNat
  rw [getElem!_pos s.data i h]
  rfl
theorem beqD_yes {a b : ByteArray} (h : a = b) : (a.toList == b.toList) = true := by rw [h]; exact beq_self_eq_true _
theorem beqD_no {a b : ByteArray} (h : a ≠ b) : (a.toList == b.toList) = false := beq_eq_false_iff_ne.2 (fun e => h (by
  rw [Lib.toList_data, Lib.toList_data] at e
  exact ByteArray.ext (Array.toList_inj.1 e)))
set_option maxHeartbeats 2000000 in
set_option maxRecDepth 20000 in
theorem c_spec_ReadInt (s : ByteArray) (w : World) (hs : s.size ≤ 1048576) :
    Calls Tryd.prog 29 #[.string s] w fun e w' => e = .returned (.tuple #[.int .i64 (readV s), .bool (readOk s)]) ∧ Below w.heap.size w w' := by
  by_cases hl : (19 : Int) < s.size
  · have Hf := Lib.hid (read_none (readI_long (s := s) (by omega)))
    go_enter Tryd.func29, Tryd.ntmps29
    go_wp2_with fail
    go_ret2
    exact ⟨by rw [Hf.out.1, Hf.out.2]; rfl, Below.refl _ _⟩
  · have hl2 : decide ((19 : Int) < s.size) = false := decide_eq_false hl
    have hs2 : s.size ≤ 19 := by omega
    clear hl hs
    go_enter Tryd.func29, Tryd.ntmps29
    go_wp2_with fail
    go_loopw [4, 5] (fun s4 s5 wr => ∃ (j : Nat) (a : Int), j ≤ s.size ∧ s5 = .int .i64 j ∧ s4 = .int .i64 a ∧ 0 ≤ a ∧ a ≤ 9223372036854775807 ∧ a = (valL 0 (s.data.toList.take j) : Int) ∧ Below w.heap.size w wr) (fun _ s5 _ => s.size - (intOf s5).toNat)
    case atStart => exact ⟨0, 0, Nat.zero_le _, rfl, rfl, by omega, by omega, by rw [List.take_zero, valL_nil]; rfl, (by repeat (first | (with_reducible exact Below.refl _ _) | (with_reducible refine ext_alloc ?_) | ((with_reducible refine ext_setCell ?_ ?_); focus (simp; (try omega))) | (with_reducible refine below_drewN ?_ _) | (with_reducible refine Below.drew ?_) | (with_reducible (apply ext_step; assumption))))⟩
    case round =>
      obtain ⟨j, a, hjl, rfl, rfl, ha0, ha1, hav, hbr⟩ := hrel
      have HA := Lib.hid hav
      have HBr := Lib.hid hbr
      clear hav hbr
      by_cases hlt : (j : Int) < s.size
      · have hjj : j < s.size := by omega
        have hj0 : (0 : Int) ≤ j := by omega
        obtain ⟨b, hb⟩ : ∃ b : Nat, b = (s.get! j).toNat := ⟨_, rfl⟩
        have hx : (s[j]'hjj).toNat = b := by rw [hb]; exact get_byte s j hjj
        have HBy := Lib.hid hb
        have hb2 : (b : Int) < 256 := by have := (s.get! j).toNat_lt; omega
        clear hb
        by_cases e48 : (b : Int) < 48
        · have Hf := Lib.hid (read_none (readI_bad (mem_get hjj) (show ¬ figB (s.get! j) by unfold figB; rw [← HBy.out]; omega)))
          go_wp2_with fail
          go_ret2
          exact ⟨by rw [Hf.out.1, Hf.out.2]; rfl, HBr.out⟩
        · have d48 : decide ((b : Int) < 48) = false := decide_eq_false e48
          by_cases e57 : (57 : Int) < b
          · have Hf := Lib.hid (read_none (readI_bad (mem_get hjj) (show ¬ figB (s.get! j) by unfold figB; rw [← HBy.out]; omega)))
            clear e48
            go_wp2_with fail
            go_ret2
            exact ⟨by rw [Hf.out.1, Hf.out.2]; rfl, HBr.out⟩
          · have d57 : decide ((57 : Int) < b) = false := decide_eq_false e57
            obtain ⟨x, hxx⟩ : ∃ x : Int, x = (b : Int) - 48 := ⟨_, rfl⟩
            have hx0 : 0 ≤ x := by omega
            have hx9 : x ≤ 9 := by omega
            have HX := Lib.hid hxx
            have hxe : (b : Int) - 48 = x := hxx.symm
            have HV := Lib.hid (show (valL 0 (s.data.toList.take (j + 1)) : Int) = 10 * a + x by
              have h1 := valL_step hjj
              rw [h1, HA.out, hxx, HBy.out]
              have := HBy.out
              omega)
            clear e48 e57 hxx
            by_cases hov : (9223372036854775807 - x) / 10 < a
            · have Hf := Lib.hid (read_none (readI_big (s := s) (j := j + 1) (by have := HV.out; omega)))
              have hov1 : decide ((9223372036854775807 - x) / 10 < a) = true := decide_eq_true hov
              have hq : (0 : Int) ≤ 9223372036854775807 - x := by omega
              clear hov
              go_wp2_with fail
              go_ret2
              exact ⟨by rw [Hf.out.1, Hf.out.2]; rfl, HBr.out⟩
            · have hov1 : decide ((9223372036854775807 - x) / 10 < a) = false := decide_eq_false hov
              have hn1 : 10 * a + x ≤ 9223372036854775807 := by omega
              have hn0 : 0 ≤ 10 * a + x := by omega
              have hq : (0 : Int) ≤ 9223372036854775807 - x := by omega
              have hm : 10 * a ≤ 9223372036854775807 := by omega
              clear hov
              go_wp2_with fail
              go_roundw
              case rel => exact ⟨j + 1, 10 * a + x, by omega, by go_num, rfl, hn0, hn1, HV.out.symm, HBr.out⟩
              case measure => simp [intOf]; omega
      · have hjl2 : j = s.size := by omega
        have HAA := Lib.hid (show a = (valL 0 s.data.toList : Int) by
          rw [HA.out, List.take_of_length_le (by rw [Array.length_toList, hjl2]; exact Nat.le_refl _)])
        have HE := Lib.hid (readI_end (s := s) (by have := HAA.out; omega))
        clear HA
        by_cases hd : decS a = s
        · have Hf := Lib.hid (read_some (s := s) (u := valL 0 s.data.toList) (by rw [HE.out, ← HAA.out, if_pos hd]))
          have hdd := beqD_yes hd
          have HD := Lib.hid hd
          clear hd
          go_wp2_with fail
          refine (c_spec_Decimal a _ ⟨by omega, ha1⟩).mono ?_
          rintro e w1 ⟨rfl, hb⟩
          go_wp2_with fail
          go_ret2
          exact ⟨by rw [Hf.out.1, Hf.out.2, ← HAA.out]; rfl, HBr.out.trans (hb.mono HBr.out.size)⟩
        · have Hf := Lib.hid (read_none (s := s) (by rw [HE.out, ← HAA.out, if_neg hd]))
          have hdd := beqD_no hd
          clear hd
          go_wp2_with fail
          refine (c_spec_Decimal a _ ⟨by omega, ha1⟩).mono ?_
          rintro e w1 ⟨rfl, hb⟩
          go_wp2_with fail
          go_ret2
          exact ⟨by rw [Hf.out.1, Hf.out.2]; rfl, HBr.out.trans (hb.mono HBr.out.size)⟩
end Go.Proofs.YtdogjeoiggnhaaaDoor
