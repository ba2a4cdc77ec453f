/- Written by wip/tools/pack.py: the texts that FnExactHostTree needs, without what it does not need. No conditions. -/
import Derived.Test.YteecgklmdfockaaGreatDoorKFnExactHostTree4
import Derived.Test.YteecgklmdfockaaGreatDoorKFnExactHostTree1
namespace Go.Proofs.YteecgklmdfockaaGreatDoor
open Go.RowKit
def nameC (c : Int) : Bool := lowerB c || digitB c || (c == 45)
def nameB (s : ByteArray) : Bool :=
  inB s.size 1 20 && s.data.toList.all (fun c => nameC (c.toNat : Int)) && (match s.data.toList.head? with | some c => ((c.toNat : Int) != 45) | none => false) && (match s.data.toList.getLast? with | some c => ((c.toNat : Int) != 45) | none => false)
theorem nameB_len {s : ByteArray} (h : inB s.size 1 20 = false) : nameB s = false := by unfold nameB; rw [h]; rfl
theorem nameB_of (s : ByteArray) (h : inB s.size 1 20 = true) (h0 : 0 < s.size) (ha : s.data.toList.all (fun c => nameC (c.toNat : Int)) = true) :
    nameB s = (((s[0].toNat : Int) != 45) && (((s[s.size - 1]'(by omega)).toNat : Int) != 45)) := by
  simp only [nameB, h, ha, data_head s h0, data_last s h0, Bool.true_and]
theorem nameB_first (s : ByteArray) (h0 : 0 < s.size) (h : ((s[0].toNat : Int) != 45) = false) : nameB s = false := by
  simp only [nameB, data_head s h0, h, Bool.and_false, Bool.false_and]
theorem nameB_last (s : ByteArray) (h0 : 0 < s.size) (h : (((s[s.size - 1]'(by omega)).toNat : Int) != 45) = false) : nameB s = false := by
  simp only [nameB, data_last s h0, h, Bool.and_false]
theorem nameB_bad (s : ByteArray) (k : Nat) (hk : k < s.size) (h : nameC (s[k].toNat : Int) = false) : nameB s = false := by
  have : s.data.toList.all (fun c => nameC (c.toNat : Int)) = false := by
    rw [List.all_eq_false]
    exact ⟨s[k], List.mem_iff_getElem?.2 ⟨k, data_getElem? s k hk⟩, by simp only [h]; decide⟩
  simp only [nameB, this, Bool.and_false, Bool.false_and]
set_option maxHeartbeats 1000000 in
theorem c_impl_NameOk (s : ByteArray) (w : World) (h1 : s.size ≤ 9223372036854775807) : Calls Tryz.prog 77 #[.string s] w fun e w' => e = .returned (.bool (nameB s)) ∧ w = w' := by
  go_enter Tryz.func77, Tryz.ntmps77
  go_wp2_with fail
  go_loop [7] (fun i => ∃ k : Nat, k ≤ s.size ∧ i = .int .i64 k ∧ (s.data.toList.take k).all (fun c => nameC (c.toNat : Int)) = true) (fun i => s.size - (intOf i).toNat)
  case atStart => exact ⟨0, Nat.zero_le _, rfl, by simp⟩
  case round =>
    obtain ⟨k, hk, rfl, hall⟩ := hrel
    have Hall := Lib.hid hall
    clear hall
    by_cases hlt : k < s.size
    · rcases hl : lowerB (s[k].toNat : Int) with _ | _
      · rcases hd : digitB (s[k].toNat : Int) with _ | _
        · rcases he : ((s[k].toNat : Int) == 45) with _ | _
          · have Hf := Lib.hid (nameB_bad s k hlt (by unfold nameC; rw [hl, hd, he]; rfl))
            have he2 : ((s[k].toNat : Int) != 45) = true := by simp only [bne, he]; rfl
            go_wp2_with (first | (go_at_call 111; refine (c_impl_isLower _ _).mono ?_; rintro e w' ⟨rfl, rfl⟩) | (go_at_call 112; refine (c_impl_isDigit _ _).mono ?_; rintro e w' ⟨rfl, rfl⟩))
            go_ret
            exact ⟨ret_bool Hf.out.symm, rfl⟩
          · have Hn := Lib.hid (all_take_succ s _ k hlt Hall.out (show nameC (s[k].toNat : Int) = true by unfold nameC; rw [he, Bool.or_true]))
            have he2 : ((s[k].toNat : Int) != 45) = false := by simp only [bne, he]; rfl
            go_wp2_with (first | (go_at_call 111; refine (c_impl_isLower _ _).mono ?_; rintro e w' ⟨rfl, rfl⟩) | (go_at_call 112; refine (c_impl_isDigit _ _).mono ?_; rintro e w' ⟨rfl, rfl⟩))
            go_round
            case rel => exact ⟨k + 1, by omega, by go_num, Hn.out⟩
            case measure => simp [intOf]; omega
        · have Hn := Lib.hid (all_take_succ s _ k hlt Hall.out (show nameC (s[k].toNat : Int) = true by unfold nameC; rw [hd, Bool.or_true, Bool.true_or]))
          go_wp2_with (first | (go_at_call 111; refine (c_impl_isLower _ _).mono ?_; rintro e w' ⟨rfl, rfl⟩) | (go_at_call 112; refine (c_impl_isDigit _ _).mono ?_; rintro e w' ⟨rfl, rfl⟩))
          go_round
          case rel => exact ⟨k + 1, by omega, by go_num, Hn.out⟩
          case measure => simp [intOf]; omega
      · have Hn := Lib.hid (all_take_succ s _ k hlt Hall.out (show nameC (s[k].toNat : Int) = true by unfold nameC; rw [hl]; rfl))
        go_wp2_with (first | (go_at_call 111; refine (c_impl_isLower _ _).mono ?_; rintro e w' ⟨rfl, rfl⟩) | (go_at_call 112; refine (c_impl_isDigit _ _).mono ?_; rintro e w' ⟨rfl, rfl⟩))
        go_round
        case rel => exact ⟨k + 1, by omega, by go_num, Hn.out⟩
        case measure => simp [intOf]; omega
    · obtain rfl : k = s.size := by omega
      rcases hi : inB (s.size : Int) 1 20 with _ | _
      · have Hf := Lib.hid (nameB_len hi)
        go_wp2_with (first | (go_at_call 80; refine (c_impl_within _ _ _ _).mono ?_; rintro e w' ⟨rfl, rfl⟩))
        go_ret
        exact ⟨ret_bool Hf.out.symm, rfl⟩
      · have h0 : 0 < s.size := by unfold inB at hi; simp at hi; omega
        have Hf := Lib.hid (nameB_of s hi h0 (by rw [← take_all_size]; exact Hall.out))
        go_wp2_with (first | (go_at_call 80; refine (c_impl_within _ _ _ _).mono ?_; rintro e w' ⟨rfl, rfl⟩))
        all_goals
          go_ret
          exact ⟨ret_bool (by rw [Hf.out] <;> simp_all), rfl⟩
theorem name_letter {c : Int} (h : letterB c = false) : (lowerB c || digitB c) = false := by
  unfold letterB at h; unfold lowerB digitB; simp at h ⊢; omega
theorem name_upper {c : Int} (h1 : 65 ≤ c) (h2 : c ≤ 90) : (lowerB c || digitB c) = false := by
  unfold lowerB digitB; simp; omega
theorem name_low {c : Int} (h : letterB c = true) (h1 : ¬ (65 ≤ c ∧ c ≤ 90)) : nameC c = true := by
  unfold letterB at h; unfold nameC lowerB digitB; simp at h ⊢; omega
theorem nameC_no {c : Int} (h : (lowerB c || digitB c) = false) (he : (c == 45) = false) : nameC c = false := by unfold nameC; rw [h, he]; rfl
theorem nameC_dash {c : Int} (he : (c == 45) = true) : nameC c = true := by unfold nameC; rw [he, Bool.or_true]
set_option maxHeartbeats 1000000 in
theorem c_spec_NameOk (s : ByteArray) (w : World) (h1 : s.size ≤ 9223372036854775807) : Calls Tryz.prog 64 #[.string s] w fun e w' => e = .returned (.bool (nameB s)) ∧ w = w' := by
  rcases hi : inB (s.size : Int) 1 20 with _ | _
  · have Hf := Lib.hid (nameB_len hi)
    go_enter Tryz.func64, Tryz.ntmps64
    go_wp2_with (first | (go_at_call 66; refine (c_spec_l01In _ _ _ _).mono ?_; rintro e w' ⟨rfl, rfl⟩))
    go_ret
    exact ⟨ret_bool Hf.out.symm, rfl⟩
  · have h0 : 0 < s.size := by unfold inB at hi; simp at hi; omega
    rcases hf : ((s[0].toNat : Int) == 45) with _ | _
    · rcases hg : (((s[s.size - 1]'(by omega)).toNat : Int) == 45) with _ | _
      · have Hz := Lib.hid (fun ha => nameB_of s hi h0 ha)
        have hf2 : ((s[0].toNat : Int) != 45) = true := by simp only [bne, hf]; rfl
        have hg2 : (((s[s.size - 1]'(by omega)).toNat : Int) != 45) = true := by simp only [bne, hg]; rfl
        go_enter Tryz.func64, Tryz.ntmps64
        go_wp2_with (first | (go_at_call 66; refine (c_spec_l01In _ _ _ _).mono ?_; rintro e w' ⟨rfl, rfl⟩))
        go_loop [3] (fun i => ∃ k : Nat, k ≤ s.size ∧ i = .int .i64 k ∧ (s.data.toList.take k).all (fun c => nameC (c.toNat : Int)) = true) (fun i => s.size - (intOf i).toNat)
        case atStart => exact ⟨0, Nat.zero_le _, rfl, by simp⟩
        case round =>
          obtain ⟨k, hk, rfl, hall⟩ := hrel
          have Hall := Lib.hid hall
          clear hall
          by_cases hlt : k < s.size
          · rcases he : ((s[k].toNat : Int) == 45) with _ | _
            · have he2 : ((s[k].toNat : Int) != 45) = true := by simp only [bne, he]; rfl
              rcases hl : letterB (s[k].toNat : Int) with _ | _
              · have Hf := Lib.hid (nameB_bad s k hlt (nameC_no (name_letter hl) he))
                go_wp2_with (first | (go_at_call 106; refine (c_spec_l14Letter _ _).mono ?_; rintro e w' ⟨rfl, rfl⟩))
                go_ret
                exact ⟨ret_bool Hf.out.symm, rfl⟩
              · by_cases ha : (65 : Int) ≤ s[k].toNat
                · by_cases hb : (s[k].toNat : Int) ≤ 90
                  · have Hf := Lib.hid (nameB_bad s k hlt (nameC_no (name_upper ha hb) he))
                    go_wp2_with (first | (go_at_call 106; refine (c_spec_l14Letter _ _).mono ?_; rintro e w' ⟨rfl, rfl⟩))
                    go_ret
                    exact ⟨ret_bool Hf.out.symm, rfl⟩
                  · have Hn := Lib.hid (all_take_succ s _ k hlt Hall.out (name_low hl (fun h => hb h.2)))
                    go_wp2_with (first | (go_at_call 106; refine (c_spec_l14Letter _ _).mono ?_; rintro e w' ⟨rfl, rfl⟩))
                    go_round
                    case rel => exact ⟨k + 1, by omega, by go_num, Hn.out⟩
                    case measure => simp [intOf]; omega
                · have Hn := Lib.hid (all_take_succ s _ k hlt Hall.out (name_low hl (fun h => ha h.1)))
                  go_wp2_with (first | (go_at_call 106; refine (c_spec_l14Letter _ _).mono ?_; rintro e w' ⟨rfl, rfl⟩))
                  go_round
                  case rel => exact ⟨k + 1, by omega, by go_num, Hn.out⟩
                  case measure => simp [intOf]; omega
            · have he2 : ((s[k].toNat : Int) != 45) = false := by simp only [bne, he]; rfl
              have Hn := Lib.hid (all_take_succ s _ k hlt Hall.out (nameC_dash he))
              go_wp2_with (first | (go_at_call 106; refine (c_spec_l14Letter _ _).mono ?_; rintro e w' ⟨rfl, rfl⟩))
              all_goals
                go_round
                case rel => exact ⟨k + 1, by omega, by go_num, Hn.out⟩
                case measure => simp [intOf]; omega
          · obtain rfl : k = s.size := by omega
            have Hf := Lib.hid (show nameB s = true by rw [Hz.out (by rw [← take_all_size]; exact Hall.out), hf2, hg2]; rfl)
            go_wp2_with fail
            go_ret
            exact ⟨ret_bool Hf.out.symm, rfl⟩
      · have Hf := Lib.hid (nameB_last s h0 (by simp only [bne, hg]; rfl))
        go_enter Tryz.func64, Tryz.ntmps64
        go_wp2_with (first | (go_at_call 66; refine (c_spec_l01In _ _ _ _).mono ?_; rintro e w' ⟨rfl, rfl⟩))
        go_ret
        exact ⟨ret_bool Hf.out.symm, rfl⟩
    · have Hf := Lib.hid (nameB_first s h0 (by simp only [bne, hf]; rfl))
      go_enter Tryz.func64, Tryz.ntmps64
      go_wp2_with (first | (go_at_call 66; refine (c_spec_l01In _ _ _ _).mono ?_; rintro e w' ⟨rfl, rfl⟩))
      go_ret
      exact ⟨ret_bool Hf.out.symm, rfl⟩
end Go.Proofs.YteecgklmdfockaaGreatDoor
namespace Go.Proofs.YteecgklmdfockaaGreatDoor
open Go.RowKit
def cmpT (a b : Taint) : Int := orI [cmpS a.key b.key, cmpS a.value b.value, cmpI a.effect b.effect]
def lessT (a b : Taint) : Bool := if !(a.key.toList == b.key.toList) then lessS a.key b.key else if !(a.value.toList == b.value.toList) then lessS a.value b.value else decide (a.effect < b.effect)
theorem c_spec_l16Less (a b : Taint) (ca cb : List Value) (w : World) (ha : C_Taint a ca) (hb : C_Taint b cb) :
    Calls Tryz.prog 109 #[.agg ca.toArray, .agg cb.toArray] w fun e w' => e = .returned (.bool (lessT a b)) ∧ Below w.heap.size w w' := by
  obtain ⟨rfl, -, -, -⟩ := ha
  obtain ⟨rfl, -, -, -⟩ := hb
  go_enter Tryz.func109, Tryz.ntmps109
  go_wp2_with fail
  all_goals
    go_ret
    refine ⟨ret_bool ?_, bel⟩
    simp only [lessT, lessS, *]
    simp
theorem c_impl_compareTaints (a b : Taint) (ca cb : List Value) (w : World) (ha : C_Taint a ca) (hb : C_Taint b cb) :
    Calls Tryz.prog 115 #[.agg ca.toArray, .agg cb.toArray] w fun e w' => e = .returned (.int .i64 (cmpT a b)) ∧ Below w.heap.size w w' := by
  obtain ⟨rfl, -, -, -⟩ := ha
  obtain ⟨rfl, -, -, -⟩ := hb
  go_enter Tryz.func115, Tryz.ntmps115
  go_wp2_with fail
  go_region_held3 (fun w' => Below ((w.alloc (.cells #[.string a.key, .string a.value, .int .i64 a.effect] 64)).alloc (.cells #[.string b.key, .string b.value, .int .i64 b.effect] 64)).heap.size ((w.alloc (.cells #[.string a.key, .string a.value, .int .i64 a.effect] 64)).alloc (.cells #[.string b.key, .string b.value, .int .i64 b.effect] 64)) w' ∧ (∀ xb xo, xb < ((w.alloc (.cells #[.string a.key, .string a.value, .int .i64 a.effect] 64)).alloc (.cells #[.string b.key, .string b.value, .int .i64 b.effect] 64)).heap.size → w'.cell? ⟨xb, xo, none⟩ = ((w.alloc (.cells #[.string a.key, .string a.value, .int .i64 a.effect] 64)).alloc (.cells #[.string b.key, .string b.value, .int .i64 b.effect] 64)).cell? ⟨xb, xo, none⟩)) (first | exact keep_drew _ | exact keep_ext (by assumption) (by assumption) | exact keep_same (by assumption) | exact keep_alloc (by assumption) _) (first | (go_at_call 127; refine (c_strings_Compare _ _ _).mono ?_; rintro e w9 ⟨rfl, rfl⟩) | (go_at_call 128; refine (c_cmp_Compare _ _ _).mono ?_; rintro e w9 ⟨rfl, rfl⟩) | (go_at_call 126; refine (c_cmp_Or3 (cmpS a.key b.key) (cmpS a.value b.value) (cmpI a.effect b.effect) _ _ 3 ?_).mono ?_; (focus ((try rw [heap_drew]); (try (refine heap_new ?_; simp)); done)); rintro e w9 ⟨rfl, rfl⟩))
  (have hb := held_step (by assumption); (first | (have hcu2 := Cum.join hcu hb; (try clear hcu); (try clear hc); (try clear hfz); (try clear hsz); (try clear hs0); (try clear hs1); (try clear hs2); (try clear hs3); (try clear hs4); ) | have hcu2 := Cum.mk hb); have hcu := hcu2; clear hcu2; obtain ⟨hc, hfz⟩ := bcell hcu.h; have hsz := hcu.h.size; (try simp at hsz); (try have hs0 := lt_of_succ_le hsz); (try (have hs1 := lt_pred hsz; (try (have hs2 := lt_pred hs1; (try (have hs3 := lt_pred hs2; (try have hs4 := lt_pred hs3))))))))
  go_wp2_with fail
  go_ret
  exact ⟨rfl, bel⟩
theorem lessT_iff (a b : Taint) : lessT a b = decide (cmpT a b < 0) := by
  have h1 := cmpS_cases a.key b.key
  have h2 := cmpS_cases a.value b.value
  have h3 := cmpI_cases a.effect b.effect
  unfold lessT cmpT
  rw [beq_toList, beq_toList]
  rcases h1 with ⟨e1, d1⟩ | ⟨e1, d1, l1⟩ | ⟨e1, d1, l1⟩ <;> simp only [e1, d1, orI] <;> simp_all
  rcases h2 with ⟨e2, d2⟩ | ⟨e2, d2, l2⟩ | ⟨e2, d2, l2⟩ <;> simp_all
  rcases h3 with ⟨e3, d3⟩ | ⟨e3, d3⟩ | ⟨e3, d3⟩ <;> simp_all <;> omega
end Go.Proofs.YteecgklmdfockaaGreatDoor
