/- Contracts of the reference's words of labels. No conditions. -/
import Derived.Test.YtmhlnbihppojmaaWord
namespace Go.Proofs.Ytmhlnbihppojmaa
open Go.RowKit

theorem wordB_empty (s : ByteArray) (o : List UInt8) (h : s.size = 0) : wordB s o = false := by
  have : s.data.toList = [] := List.eq_nil_of_length_eq_zero (by rw [data_length]; exact h)
  simp [wordB, this]
theorem wordB_head (s : ByteArray) (o : List UInt8) (h : 0 < s.size) (hf : letterB (s[0].toNat : Int) = false) : wordB s o = false := by
  simp [wordB, data_head s h, hf]
theorem wordB_last (s : ByteArray) (o : List UInt8) (h : 0 < s.size) (hf : letterB ((s[s.size - 1]'(by omega)).toNat : Int) = false) : wordB s o = false := by
  simp [wordB, data_last s h, hf]
theorem contains_take_succ (o : ByteArray) (m : Nat) (h : m < o.size) (c : UInt8) : (o.data.toList.take (m + 1)).contains c = ((o.data.toList.take m).contains c || o[m] == c) := by
  rw [data_take_succ o m h]; simp only [List.contains_append, List.contains_cons, List.contains_nil, Bool.or_false]; rw [BEq.comm (a := c)]

set_option maxHeartbeats 400000 in
theorem c_spec_l14Word (s o : ByteArray) (w : World) (h1 : s.size ≤ 9223372036854775807) (h2 : o.size ≤ 9223372036854775807) : Calls Try.prog 162 #[.string s, .string o] w fun e w' => e = .returned (.bool (wordB s o.data.toList)) ∧ ∃ n, w' = w.drewN n := by
  by_cases h0 : 0 < s.size
  · have hz : ((s.size : Int) == 0) = false := beq_eq_false_iff_ne.2 (by omega)
    rcases hf : letterB (s[0].toNat : Int) with _ | _
    · have Hf := Lib.hid (wordB_head s o.data.toList h0 hf)
      go_enter Try.func162, Try.ntmps162
      go_wp2_with (first | (go_at_call 181; refine (c_spec_l14Letter _ _).mono ?_; rintro e w' ⟨rfl, rfl⟩))
      go_ret
      exact ⟨ret_bool Hf.out.symm, 0, rfl⟩
    · rcases hg : letterB ((s[s.size - 1]'(by omega)).toNat : Int) with _ | _
      · have Hf := Lib.hid (wordB_last s o.data.toList h0 hg)
        go_enter Try.func162, Try.ntmps162
        go_wp2_with (first | (go_at_call 181; refine (c_spec_l14Letter _ _).mono ?_; rintro e w' ⟨rfl, rfl⟩))
        go_ret
        exact ⟨ret_bool Hf.out.symm, 0, rfl⟩
      · go_enter Try.func162, Try.ntmps162
        go_wp2_with (first | (go_at_call 181; refine (c_spec_l14Letter _ _).mono ?_; rintro e w' ⟨rfl, rfl⟩))
        go_loopw [5] (fun i wr => ∃ k : Nat, k ≤ s.size ∧ i = .int .i64 k ∧ (s.data.toList.take k).all (goodB o.data.toList) = true ∧ ∃ n, wr = w.drewN n) (fun i _ => s.size - (intOf i).toNat)
        case atStart => exact ⟨0, Nat.zero_le _, rfl, by simp, 0, rfl⟩
        case round =>
          obtain ⟨k, hk, rfl, hall, n, rfl⟩ := hrel
          have Hall := Lib.hid hall
          clear hall
          by_cases hlt : k < s.size
          · go_wp2_with (first | (go_at_call 181; refine (c_spec_l14Letter _ _).mono ?_; rintro e w' ⟨rfl, rfl⟩))
            go_loopw [6, 7] (fun b j wr => ∃ m : Nat, m ≤ o.size ∧ j = .int .i64 m ∧ b = .bool (letterB (s[k].toNat : Int) || (o.data.toList.take m).contains s[k]) ∧ ∃ n, wr = w.drewN n) (fun _ j _ => o.size - (intOf j).toNat)
            case atStart => exact ⟨0, Nat.zero_le _, rfl, by simp, n, rfl⟩
            case round =>
              obtain ⟨m, hm, rfl, rfl, n1, rfl⟩ := hrel
              by_cases hlm : m < o.size
              · rcases hb : (letterB (s[k].toNat : Int) || (o.data.toList.take m).contains s[k]) with _ | _
                · have Hn := Lib.hid (contains_take_succ o m hlm s[k])
                  have He := Lib.hid (u8_beq s[k] o[m])
                  have Hb := Lib.hid hb
                  clear hb
                  go_wp2_with fail
                  go_quiet (fail)
                  go_wp2_with fail
                  go_roundw
                  case rel => exact ⟨m + 1, by omega, by go_num, by rw [Hn.out, ← Bool.or_assoc, Hb.out, He.out, Bool.false_or, Bool.beq_comm], _, rfl⟩
                  case measure => simp [intOf]; omega
                · have Hn := Lib.hid (contains_take_succ o m hlm s[k])
                  have Hb := Lib.hid hb
                  go_wp2_with fail
                  go_quiet (fail)
                  go_wp2_with fail
                  go_roundw
                  case rel => exact ⟨m + 1, by omega, by go_num, by rw [Hn.out, ← Bool.or_assoc, Hb.out, Bool.true_or], _, rfl⟩
                  case measure => simp [intOf]; omega
              · obtain rfl : m = o.size := by omega
                rw [take_all_size]
                rcases hb : (letterB (s[k].toNat : Int) || o.data.toList.contains s[k]) with _ | _
                · have Hf := Lib.hid (wordB_bad s o.data.toList k hlt (by simp at hb; exact hb.1) (by simp at hb; simpa using hb.2))
                  go_wp2_with fail
                  go_ret
                  exact ⟨ret_bool Hf.out.symm, _, rfl⟩
                · have Hn := Lib.hid (all_take_succ s _ k hlt Hall.out (show goodB o.data.toList s[k] = true from hb))
                  go_wp2_with fail
                  go_roundw
                  case rel => exact ⟨k + 1, by omega, by go_num, Hn.out, _, rfl⟩
                  case measure => simp [intOf]; omega
          · obtain rfl : k = s.size := by omega
            have Hf := Lib.hid (wordB_of s o.data.toList h0 (by rw [← take_all_size]; exact Hall.out))
            go_wp2_with fail
            go_ret
            exact ⟨ret_bool (by rw [Hf.out, hf, hg]; rfl), _, rfl⟩
  · have Hf := Lib.hid (wordB_empty s o.data.toList (by omega))
    have hz : ((s.size : Int) == 0) = true := beq_iff_eq.2 (by omega)
    go_enter Try.func162, Try.ntmps162
    go_wp2_with fail
    go_ret
    exact ⟨ret_bool Hf.out.symm, 0, rfl⟩
end Go.Proofs.Ytmhlnbihppojmaa
