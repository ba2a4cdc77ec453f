/- Written by wip/tools/pack.py: the texts that FnExactPodNormal needs, without what it does not need. No conditions. -/
import Derived.Test.YtmhlnbihppojmaaGreatKFnExactPodNormal5
import Derived.Test.YtmhlnbihppojmaaGreatKFnExactPodNormal1
namespace Go.Proofs.YtmhlnbihppojmaaGreat
open Go.RowKit
theorem wordB_empty (s : ByteArray) (o : List UInt8) (h : s.size = 0) : wordB s o = false := by
  have : s.data.toList = [] := List.eq_nil_of_length_eq_zero (by rw [data_length]; exact h)
  simp [wordB, this]
theorem wordB_head (s : ByteArray) (o : List UInt8) (h : 0 < s.size) (hf : letterB (s[0].toNat : Int) = false) : wordB s o = false := by
  simp [wordB, data_head s h, hf]
theorem wordB_last (s : ByteArray) (o : List UInt8) (h : 0 < s.size) (hf : letterB ((s[s.size - 1]'(by omega)).toNat : Int) = false) : wordB s o = false := by
  simp [wordB, data_last s h, hf]
theorem contains_take_succ (o : ByteArray) (m : Nat) (h : m < o.size) (c : UInt8) : (o.data.toList.take (m + 1)).contains c = ((o.data.toList.take m).contains c || o[m] == c) := by
  rw [data_take_succ o m h]; simp only [List.contains_append, List.contains_cons, List.contains_nil, Bool.or_false]; rw [BEq.comm (a := c)]
set_option maxHeartbeats 400000 in
theorem c_spec_l14Word (s o : ByteArray) (w : World) (h1 : s.size ≤ 9223372036854775807) (h2 : o.size ≤ 9223372036854775807) : Calls Tryz.prog 206 #[.string s, .string o] w fun e w' => e = .returned (.bool (wordB s o.data.toList)) ∧ ∃ n, w' = w.drewN n := by
  by_cases h0 : 0 < s.size
  · have hz : ((s.size : Int) == 0) = false := beq_eq_false_iff_ne.2 (by omega)
    rcases hf : letterB (s[0].toNat : Int) with _ | _
    · have Hf := Lib.hid (wordB_head s o.data.toList h0 hf)
      go_enter Tryz.func206, Tryz.ntmps206
      go_wp2_with (first | (go_at_call 153; refine (c_spec_l14Letter _ _).mono ?_; rintro e w' ⟨rfl, rfl⟩))
      go_ret
      exact ⟨ret_bool Hf.out.symm, 0, rfl⟩
    · rcases hg : letterB ((s[s.size - 1]'(by omega)).toNat : Int) with _ | _
      · have Hf := Lib.hid (wordB_last s o.data.toList h0 hg)
        go_enter Tryz.func206, Tryz.ntmps206
        go_wp2_with (first | (go_at_call 153; refine (c_spec_l14Letter _ _).mono ?_; rintro e w' ⟨rfl, rfl⟩))
        go_ret
        exact ⟨ret_bool Hf.out.symm, 0, rfl⟩
      · go_enter Tryz.func206, Tryz.ntmps206
        go_wp2_with (first | (go_at_call 153; refine (c_spec_l14Letter _ _).mono ?_; rintro e w' ⟨rfl, rfl⟩))
        go_loopw [5] (fun i wr => ∃ k : Nat, k ≤ s.size ∧ i = .int .i64 k ∧ (s.data.toList.take k).all (goodB o.data.toList) = true ∧ ∃ n, wr = w.drewN n) (fun i _ => s.size - (intOf i).toNat)
        case atStart => exact ⟨0, Nat.zero_le _, rfl, by simp, 0, rfl⟩
        case round =>
          obtain ⟨k, hk, rfl, hall, n, rfl⟩ := hrel
          have Hall := Lib.hid hall
          clear hall
          by_cases hlt : k < s.size
          · go_wp2_with (first | (go_at_call 153; refine (c_spec_l14Letter _ _).mono ?_; rintro e w' ⟨rfl, rfl⟩))
            go_loopw [6, 7] (fun b j wr => ∃ m : Nat, m ≤ o.size ∧ j = .int .i64 m ∧ b = .bool (letterB (s[k].toNat : Int) || (o.data.toList.take m).contains s[k]) ∧ ∃ n, wr = w.drewN n) (fun _ j _ => o.size - (intOf j).toNat)
            case atStart => exact ⟨0, Nat.zero_le _, rfl, by simp, n, rfl⟩
            case round =>
              obtain ⟨m, hm, rfl, rfl, n1, rfl⟩ := hrel
              by_cases hlm : m < o.size
              · rcases hb : (letterB (s[k].toNat : Int) || (o.data.toList.take m).contains s[k]) with _ | _
                · have Hn := Lib.hid (contains_take_succ o m hlm s[k])
                  have He := Lib.hid (u8_beq s[k] o[m])
                  have Hb := Lib.hid hb
                  clear hb
                  go_wp2_with fail
                  go_quiet (fail)
                  go_wp2_with fail
                  go_roundw
                  case rel => exact ⟨m + 1, by omega, by go_num, by rw [Hn.out, ← Bool.or_assoc, Hb.out, He.out, Bool.false_or, Bool.beq_comm], _, rfl⟩
                  case measure => simp [intOf]; omega
                · have Hn := Lib.hid (contains_take_succ o m hlm s[k])
                  have Hb := Lib.hid hb
                  go_wp2_with fail
                  go_quiet (fail)
                  go_wp2_with fail
                  go_roundw
                  case rel => exact ⟨m + 1, by omega, by go_num, by rw [Hn.out, ← Bool.or_assoc, Hb.out, Bool.true_or], _, rfl⟩
                  case measure => simp [intOf]; omega
              · obtain rfl : m = o.size := by omega
                rw [take_all_size]
                rcases hb : (letterB (s[k].toNat : Int) || o.data.toList.contains s[k]) with _ | _
                · have Hf := Lib.hid (wordB_bad s o.data.toList k hlt (by simp at hb; exact hb.1) (by simp at hb; simpa using hb.2))
                  go_wp2_with fail
                  go_ret
                  exact ⟨ret_bool Hf.out.symm, _, rfl⟩
                · have Hn := Lib.hid (all_take_succ s _ k hlt Hall.out (show goodB o.data.toList s[k] = true from hb))
                  go_wp2_with fail
                  go_roundw
                  case rel => exact ⟨k + 1, by omega, by go_num, Hn.out, _, rfl⟩
                  case measure => simp [intOf]; omega
          · obtain rfl : k = s.size := by omega
            have Hf := Lib.hid (wordB_of s o.data.toList h0 (by rw [← take_all_size]; exact Hall.out))
            go_wp2_with fail
            go_ret
            exact ⟨ret_bool (by rw [Hf.out, hf, hg]; rfl), _, rfl⟩
  · have Hf := Lib.hid (wordB_empty s o.data.toList (by omega))
    have hz : ((s.size : Int) == 0) = true := beq_iff_eq.2 (by omega)
    go_enter Tryz.func206, Tryz.ntmps206
    go_wp2_with fail
    go_ret
    exact ⟨ret_bool Hf.out.symm, 0, rfl⟩
end Go.Proofs.YtmhlnbihppojmaaGreat
namespace Go.Proofs.YtmhlnbihppojmaaGreat
open Go.RowKit
def lkB (s : ByteArray) : Bool := decide (s.size ≤ 30) && wordB s [45, 95, 46, 47]
def lvB (s : ByteArray) : Bool := s.toList.isEmpty || (decide (s.size ≤ 20) && wordB s [45, 95, 46])
def tolB (k : ByteArray) (q : Bool) (v : ByteArray) (e : Int) : Bool := (lkB k || k.toList.isEmpty && !q) && lvB v && (v.toList.isEmpty || q) && inB e 0 2
theorem c_impl_LabelKeyOk (s : ByteArray) (w : World) (h1 : s.size ≤ 9223372036854775807) : Calls Tryz.prog 108 #[.string s] w fun e w' => e = .returned (.bool (lkB s)) ∧ w = w' := by
  rcases hi : inB (s.size : Int) 1 30 with _ | _
  · have hf : lkB s = false := by
      simp [inB] at hi
      by_cases h0 : s.size = 0
      · simp [lkB, wordB_empty s _ h0]
      · simp [lkB]; intro; omega
    have Hf := Lib.hid hf
    clear hf
    go_enter Tryz.func108, Tryz.ntmps108
    go_wp2_with (first | (go_at_call 109; refine (c_impl_within _ _ _ _).mono ?_; rintro e w' ⟨rfl, rfl⟩))
    go_ret
    exact ⟨ret_bool Hf.out.symm, rfl⟩
  · simp [inB] at hi
    have hf : lkB s = wordB s [45, 95, 46, 47] := by simp [lkB]; intro; omega
    have hi2 : inB (s.size : Int) 1 30 = true := by simp [inB]; omega
    have Hf := Lib.hid hf
    clear hf
    go_enter Tryz.func108, Tryz.ntmps108
    go_wp2_with (first | (go_at_call 109; refine (c_impl_within _ _ _ _).mono ?_; rintro e w' ⟨rfl, rfl⟩) | (go_at_call 183; refine (c_impl_wordOk _ _ _ (by omega) (by omega)).mono ?_; rintro e w' ⟨rfl, rfl⟩))
    go_ret
    exact ⟨ret_bool Hf.out.symm, rfl⟩
theorem c_impl_LabelValueOk (s : ByteArray) (w : World) (h1 : s.size ≤ 9223372036854775807) : Calls Tryz.prog 110 #[.string s] w fun e w' => e = .returned (.bool (lvB s)) ∧ w = w' := by
  rcases he : s.toList.isEmpty with _ | _
  · have h0 := isEmpty_false he
    by_cases h20 : s.size ≤ 20
    · have Hf := Lib.hid (show lvB s = wordB s [45, 95, 46] by simp [lvB, he, h20])
      go_enter Tryz.func110, Tryz.ntmps110
      go_wp2_with (first | (go_at_call 183; refine (c_impl_wordOk _ _ _ (by omega) (by omega)).mono ?_; rintro e w' ⟨rfl, rfl⟩))
      go_ret
      exact ⟨ret_bool Hf.out.symm, rfl⟩
    · have Hf := Lib.hid (show lvB s = false by simp [lvB, he, h20])
      go_enter Tryz.func110, Tryz.ntmps110
      go_wp2_with (first | (go_at_call 183; refine (c_impl_wordOk _ _ _ (by omega) (by omega)).mono ?_; rintro e w' ⟨rfl, rfl⟩))
      go_ret
      exact ⟨ret_bool Hf.out.symm, rfl⟩
  · have Hf := Lib.hid (show lvB s = true by simp [lvB, he])
    go_enter Tryz.func110, Tryz.ntmps110
    go_wp2_with fail
    go_ret
    exact ⟨ret_bool Hf.out.symm, rfl⟩
theorem c_spec_LabelKeyOk (s : ByteArray) (w : World) (h1 : s.size ≤ 9223372036854775807) : Calls Tryz.prog 154 #[.string s] w fun e w' => e = .returned (.bool (lkB s)) ∧ Below w.heap.size w w' := by
  have hs : (ByteArray.mk #[45, 95, 46, 47]).size ≤ 9223372036854775807 := by decide
  by_cases h20 : s.size ≤ 30
  · have Hf := Lib.hid (show lkB s = wordB s [45, 95, 46, 47] by simp [lkB, h20])
    go_enter Tryz.func154, Tryz.ntmps154
    go_wp2_with (go_at_call 206; refine (c_spec_l14Word _ _ _ h1 hs).mono ?_; rintro e w' ⟨rfl, n', rfl⟩)
    go_ret
    exact ⟨ret_bool Hf.out.symm, bel⟩
  · have Hf := Lib.hid (show lkB s = false by simp [lkB, h20])
    go_enter Tryz.func154, Tryz.ntmps154
    go_wp2_with fail
    go_ret
    exact ⟨ret_bool Hf.out.symm, bel⟩
theorem c_spec_LabelValueOk (s : ByteArray) (w : World) (h1 : s.size ≤ 9223372036854775807) : Calls Tryz.prog 155 #[.string s] w fun e w' => e = .returned (.bool (lvB s)) ∧ Below w.heap.size w w' := by
  have hs : (ByteArray.mk #[45, 95, 46]).size ≤ 9223372036854775807 := by decide
  rcases he : s.toList.isEmpty with _ | _
  · by_cases h20 : s.size ≤ 20
    · have Hf := Lib.hid (show lvB s = wordB s [45, 95, 46] by simp [lvB, he, h20])
      go_enter Tryz.func155, Tryz.ntmps155
      go_wp2_with (go_at_call 206; refine (c_spec_l14Word _ _ _ h1 hs).mono ?_; rintro e w' ⟨rfl, n', rfl⟩)
      go_ret
      exact ⟨ret_bool Hf.out.symm, bel⟩
    · have Hf := Lib.hid (show lvB s = false by simp [lvB, he, h20])
      go_enter Tryz.func155, Tryz.ntmps155
      go_wp2_with fail
      go_ret
      exact ⟨ret_bool Hf.out.symm, bel⟩
  · have Hf := Lib.hid (show lvB s = true by simp [lvB, he])
    go_enter Tryz.func155, Tryz.ntmps155
    go_wp2_with fail
    go_ret
    exact ⟨ret_bool Hf.out.symm, bel⟩
theorem c_impl_ToleranceOk (k : ByteArray) (q : Bool) (v : ByteArray) (x : Int) (w : World) (h1 : k.size ≤ 9223372036854775807) (h2 : v.size ≤ 9223372036854775807) : Calls Tryz.prog 191 #[.agg #[.string k, .bool q, .string v, .int .i64 x]] w fun e w' => e = .returned (.bool (tolB k q v x)) ∧ Below w.heap.size w w' := by
  go_enter Tryz.func191, Tryz.ntmps191
  go_wp2_with (first | (go_at_call 108; refine (c_impl_LabelKeyOk _ _ (by omega)).mono ?_; rintro e w1 ⟨rfl, rfl⟩) | (go_at_call 110; refine (c_impl_LabelValueOk _ _ (by omega)).mono ?_; rintro e w1 ⟨rfl, rfl⟩) | (go_at_call 109; refine (c_impl_within _ _ _ _).mono ?_; rintro e w' ⟨rfl, rfl⟩))
  all_goals
    go_ret
    exact ⟨ret_bool (by simp_all [tolB]), bel⟩
theorem c_spec_ToleranceOk (k : ByteArray) (q : Bool) (v : ByteArray) (x : Int) (w : World) (h1 : k.size ≤ 9223372036854775807) (h2 : v.size ≤ 9223372036854775807) : Calls Tryz.prog 156 #[.agg #[.string k, .bool q, .string v, .int .i64 x]] w fun e w' => e = .returned (.bool (tolB k q v x)) ∧ Below w.heap.size w w' := by
  go_enter Tryz.func156, Tryz.ntmps156
  go_wp2_with (first | (go_at_call 154; refine (c_spec_LabelKeyOk _ _ (by omega)).mono ?_; rintro e w1 ⟨rfl, hb⟩; (first | (have hcu2 := Cum.join hcu hb; (try clear hcu); (try clear hc); (try clear hfz); (try clear hsz); (try clear hs0); (try clear hs1); (try clear hs2); (try clear hs3); (try clear hs4); ) | have hcu2 := Cum.mk hb); have hcu := hcu2; clear hcu2; obtain ⟨hc, hfz⟩ := bcell hcu.h; have hsz := hcu.h.size; (try simp at hsz); (try have hs0 := lt_of_succ_le hsz); (try (have hs1 := lt_pred hsz; (try (have hs2 := lt_pred hs1; (try (have hs3 := lt_pred hs2; (try have hs4 := lt_pred hs3)))))))) | (go_at_call 155; refine (c_spec_LabelValueOk _ _ (by omega)).mono ?_; rintro e w1 ⟨rfl, hb⟩; (first | (have hcu2 := Cum.join hcu hb; (try clear hcu); (try clear hc); (try clear hfz); (try clear hsz); (try clear hs0); (try clear hs1); (try clear hs2); (try clear hs3); (try clear hs4); ) | have hcu2 := Cum.mk hb); have hcu := hcu2; clear hcu2; obtain ⟨hc, hfz⟩ := bcell hcu.h; have hsz := hcu.h.size; (try simp at hsz); (try have hs0 := lt_of_succ_le hsz); (try (have hs1 := lt_pred hsz; (try (have hs2 := lt_pred hs1; (try (have hs3 := lt_pred hs2; (try have hs4 := lt_pred hs3)))))))) | (go_at_call 88; refine (c_spec_l01In _ _ _ _).mono ?_; rintro e w' ⟨rfl, rfl⟩))
  all_goals
    go_ret
    exact ⟨ret_bool (by simp_all [tolB, lvB, Bool.or_comm]), bel⟩
end Go.Proofs.YtmhlnbihppojmaaGreat
namespace Go.Proofs.YtmhlnbihppojmaaGreat
def stepB {D : Type} (ok : D → Bool) (lt : D → D → Bool) (l : List D) (i : Nat) : Bool :=
  match l[i]? with
  | none => true
  | some d => ok d && (match i with | 0 => true | j + 1 => match l[j]? with | some c => lt c d | none => true)
def chainB {D : Type} (ok : D → Bool) (lt : D → D → Bool) (l : List D) : Bool := (List.range l.length).all (stepB ok lt l)
theorem chain_succ {D : Type} (ok : D → Bool) (lt : D → D → Bool) (l : List D) (k : Nat) : (List.range (k + 1)).all (stepB ok lt l) = ((List.range k).all (stepB ok lt l) && stepB ok lt l k) := by
  rw [List.range_succ, List.all_append]; simp
theorem chain_bad {D : Type} (ok : D → Bool) (lt : D → D → Bool) (l : List D) (k : Nat) (hk : k < l.length) (h : stepB ok lt l k = false) : chainB ok lt l = false := by
  unfold chainB
  rw [List.all_eq_false]
  exact ⟨k, by simpa using hk, by simp [h]⟩
theorem stepB_zero {D : Type} (ok : D → Bool) (lt : D → D → Bool) (l : List D) (d : D) (h : l[0]? = some d) : stepB ok lt l 0 = ok d := by
  unfold stepB; rw [h]; simp
theorem stepB_succ {D : Type} (ok : D → Bool) (lt : D → D → Bool) (l : List D) (k : Nat) (c d : D) (hc : l[k]? = some c) (h : l[k + 1]? = some d) : stepB ok lt l (k + 1) = (ok d && lt c d) := by
  unfold stepB; rw [h]; simp only [hc]
theorem stepB_no {D : Type} (ok : D → Bool) (lt : D → D → Bool) (l : List D) (k : Nat) (d : D) (h : l[k]? = some d) (ho : ok d = false) : stepB ok lt l k = false := by
  unfold stepB; rw [h]; simp [ho]
theorem chain_all {D : Type} {ok : D → Bool} {lt : D → D → Bool} {l : List D} (h : (List.range l.length).all (stepB ok lt l) = true) : chainB ok lt l = true := h
end Go.Proofs.YtmhlnbihppojmaaGreat
