/- Contracts of the words of labels. No conditions. -/
import Derived.Test.YtmhlnbihppojmaaLabel
import Derived.Deep.QuietTactic
import Derived.BigQuiet
namespace Go.Proofs.Ytmhlnbihppojmaa
open Go.RowKit

def goodB (o : List UInt8) (c : UInt8) : Bool := letterB (c.toNat : Int) || o.contains c
def wordB (s : ByteArray) (o : List UInt8) : Bool :=
  s.data.toList.all (goodB o) && (match s.data.toList.head? with | some c => letterB (c.toNat : Int) | none => false) && (match s.data.toList.getLast? with | some c => letterB (c.toNat : Int) | none => false)

theorem data_take_succ (s : ByteArray) (k : Nat) (h : k < s.size) : s.data.toList.take (k + 1) = s.data.toList.take k ++ [s[k]] := by
  rw [List.take_succ_eq_append_getElem (by simpa using h)]; rfl
theorem data_getElem? (s : ByteArray) (k : Nat) (h : k < s.size) : s.data.toList[k]? = some s[k] := by
  rw [List.getElem?_eq_getElem (by simpa using h)]; rfl
theorem data_length (s : ByteArray) : s.data.toList.length = s.size := by simp
theorem data_head (s : ByteArray) (h : 0 < s.size) : s.data.toList.head? = some s[0] := by
  rw [List.head?_eq_getElem?, data_getElem? s 0 h]
theorem data_last (s : ByteArray) (h : 0 < s.size) : s.data.toList.getLast? = some (s[s.size - 1]'(by omega)) := by
  rw [List.getLast?_eq_getElem?, data_length, data_getElem? s _ (by omega)]
theorem u8_beq (a b : UInt8) : ((a.toNat : Int) == (b.toNat : Int)) = (a == b) := by
  rw [Bool.eq_iff_iff, beq_iff_eq, beq_iff_eq, ← UInt8.toNat_inj]; omega

theorem wordB_of (s : ByteArray) (o : List UInt8) (h : 0 < s.size) (ha : s.data.toList.all (goodB o) = true) :
    wordB s o = (letterB (s[0].toNat : Int) && letterB ((s[s.size - 1]'(by omega)).toNat : Int)) := by
  simp only [wordB, ha, data_head s h, data_last s h, Bool.true_and]
theorem wordB_bad (s : ByteArray) (o : List UInt8) (k : Nat) (hk : k < s.size) (h1 : letterB (s[k].toNat : Int) = false) (h2 : o.contains s[k] = false) : wordB s o = false := by
  have : s.data.toList.all (goodB o) = false := by
    rw [List.all_eq_false]
    exact ⟨s[k], List.mem_iff_getElem?.2 ⟨k, data_getElem? s k hk⟩, by simp only [goodB, h1, h2]; decide⟩
  simp only [wordB, this, Bool.false_and]
theorem all_take_succ (s : ByteArray) (p : UInt8 → Bool) (k : Nat) (h : k < s.size) (ha : (s.data.toList.take k).all p = true) (hp : p s[k] = true) : (s.data.toList.take (k + 1)).all p = true := by
  rw [data_take_succ s k h, List.all_append, ha]; simp [hp]
theorem take_all_size (s : ByteArray) : s.data.toList.take s.size = s.data.toList := List.take_of_length_le (by simp)

set_option maxHeartbeats 400000 in
theorem c_impl_wordOk (s o : ByteArray) (w : World) (h0 : 0 < s.size) (h1 : s.size ≤ 9223372036854775807) : Calls Try.prog 161 #[.string s, .string o] w fun e w' => e = .returned (.bool (wordB s o.data.toList)) ∧ w = w' := by
  go_enter Try.func161, Try.ntmps161
  go_wp2_with fail
  go_loop [9] (fun i => ∃ k : Nat, k ≤ s.size ∧ i = .int .i64 k ∧ (s.data.toList.take k).all (goodB o.data.toList) = true) (fun i => s.size - (intOf i).toNat)
  case atStart => exact ⟨0, Nat.zero_le _, rfl, by simp⟩
  case round =>
    obtain ⟨k, hk, rfl, hall⟩ := hrel
    have Hall := Lib.hid hall
    clear hall
    by_cases hlt : k < s.size
    · rcases hl : letterB (s[k].toNat : Int) with _ | _
      · rcases hi : o.data.toList.contains s[k] with _ | _
        · have hx := indexByte_lt.2 hi
          have Hf := Lib.hid (wordB_bad s o.data.toList k hlt hl hi)
          have Hi := Lib.hid hi
          clear hi
          go_wp2_with (first | (go_at_call 196; refine (c_impl_wordOk1 _ _).mono ?_; rintro e w' ⟨rfl, rfl⟩) | (go_at_call 198; refine (c_strings_IndexByte _ _ _).mono ?_; rintro e w' ⟨rfl, rfl⟩))
          go_ret
          exact ⟨ret_bool Hf.out.symm, rfl⟩
        · have hx : ¬ Lib.indexByte o.data.toList s[k] < 0 := fun h => by rw [indexByte_lt.1 h] at hi; cases hi
          have Hn := Lib.hid (all_take_succ s _ k hlt Hall.out (show goodB o.data.toList s[k] = true by simp only [goodB, hi, Bool.or_true]))
          have Hi := Lib.hid hi
          clear hi
          go_wp2_with (first | (go_at_call 196; refine (c_impl_wordOk1 _ _).mono ?_; rintro e w' ⟨rfl, rfl⟩) | (go_at_call 198; refine (c_strings_IndexByte _ _ _).mono ?_; rintro e w' ⟨rfl, rfl⟩))
          go_round
          case rel => exact ⟨k + 1, by omega, by go_num, Hn.out⟩
          case measure => simp [intOf]; omega
      · have Hn := Lib.hid (all_take_succ s _ k hlt Hall.out (show goodB o.data.toList s[k] = true by simp only [goodB, hl, Bool.true_or]))
        go_wp2_with (first | (go_at_call 196; refine (c_impl_wordOk1 _ _).mono ?_; rintro e w' ⟨rfl, rfl⟩) | (go_at_call 198; refine (c_strings_IndexByte _ _ _).mono ?_; rintro e w' ⟨rfl, rfl⟩))
        go_round
        case rel => exact ⟨k + 1, by omega, by go_num, Hn.out⟩
        case measure => simp [intOf]; omega
    · obtain rfl : k = s.size := by omega
      have Hf := Lib.hid (wordB_of s o.data.toList h0 (by rw [← take_all_size]; exact Hall.out))
      go_wp2_with (first | (go_at_call 196; refine (c_impl_wordOk1 _ _).mono ?_; rintro e w' ⟨rfl, rfl⟩))
      all_goals
        go_ret
        exact ⟨ret_bool (by rw [Hf.out]; simp_all), rfl⟩
end Go.Proofs.Ytmhlnbihppojmaa
