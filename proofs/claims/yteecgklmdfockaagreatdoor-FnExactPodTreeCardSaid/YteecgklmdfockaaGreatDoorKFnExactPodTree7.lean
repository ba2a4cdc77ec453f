/- Written by wip/tools/pack.py: the texts that FnExactPodTree needs, without what it does not need. No conditions. -/
import Derived.Test.YteecgklmdfockaaGreatDoorKFnExactPodTree1
import Derived.Test.YteecgklmdfockaaGreatDoorKFnExactPodTree4
import Derived.Test.YteecgklmdfockaaGreatDoorKFnExactPodTree3
import Derived.Test.YteecgklmdfockaaGreatDoorKFnExactPodTree6
namespace Go.Proofs.YteecgklmdfockaaGreatDoor
open Go.RowKit
def needOkB (d : Need) : Bool := lkB d.key && inB d.op 1 4 && (if 3 ≤ d.op then ((d.values.length : Int) == 0) else inB d.values.length 1 4 && chainB lvB lessS d.values)
theorem needOk_key {d : Need} (h : lkB d.key = false) : needOkB d = false := by unfold needOkB; rw [h]; rfl
theorem needOk_op {d : Need} (h : inB d.op 1 4 = false) : needOkB d = false := by unfold needOkB; rw [h, Bool.and_false]; rfl
theorem needOk_has {d : Need} (h1 : lkB d.key = true) (h2 : inB d.op 1 4 = true) (h3 : 3 ≤ d.op) : needOkB d = ((d.values.length : Int) == 0) := by unfold needOkB; rw [h1, h2, if_pos h3]; rfl
theorem needOk_in {d : Need} (h1 : lkB d.key = true) (h2 : inB d.op 1 4 = true) (h3 : ¬ 3 ≤ d.op) : needOkB d = (inB d.values.length 1 4 && chainB lvB lessS d.values) := by unfold needOkB; rw [h1, h2, if_neg h3]; rfl
set_option maxHeartbeats 4000000 in
theorem c_impl_NeedOk (d : Need) (cs : List Value) (w : World) (lo : Nat) (hs : C_Need lo w.heap.size w d cs) :
    Calls Tryz.prog 100 #[.agg cs.toArray] w fun e w' => e = .returned (.bool (needOkB d)) ∧ Below w.heap.size w w' := by
  obtain ⟨v2, rfl, a0, a1, a2⟩ := hs
  obtain ⟨A, c, rfl, hlc, hcc, hA⟩ := a2
  unfold I64 at a1
  rcases hk : lkB d.key with _ | _
  · have Hf := Lib.hid (needOk_key hk)
    go_enter Tryz.func100, Tryz.ntmps100
    go_wp2_with (first | (go_at_call 113; refine (c_impl_LabelKeyOk _ _ (by omega)).mono ?_; rintro e w1 ⟨rfl, rfl⟩) | (go_at_call 80; refine (c_impl_within _ _ _ _).mono ?_; rintro e w' ⟨rfl, rfl⟩))
    go_ret
    exact ⟨ret_bool Hf.out.symm, bel⟩
  · rcases ho : inB d.op 1 4 with _ | _
    · have Hf := Lib.hid (needOk_op ho)
      go_enter Tryz.func100, Tryz.ntmps100
      go_wp2_with (first | (go_at_call 113; refine (c_impl_LabelKeyOk _ _ (by omega)).mono ?_; rintro e w1 ⟨rfl, rfl⟩) | (go_at_call 80; refine (c_impl_within _ _ _ _).mono ?_; rintro e w' ⟨rfl, rfl⟩))
      go_ret
      exact ⟨ret_bool Hf.out.symm, bel⟩
    · by_cases hop : 3 ≤ d.op
      · have Hf := Lib.hid (needOk_has hk ho hop)
        have hop2 : 2 < d.op := by omega
        go_enter Tryz.func100, Tryz.ntmps100
        go_wp2_with (first | (go_at_call 113; refine (c_impl_LabelKeyOk _ _ (by omega)).mono ?_; rintro e w1 ⟨rfl, rfl⟩) | (go_at_call 80; refine (c_impl_within _ _ _ _).mono ?_; rintro e w' ⟨rfl, rfl⟩))
        go_ret
        exact ⟨ret_bool Hf.out.symm, bel⟩
      · have Hin := Lib.hid (needOk_in hk ho hop)
        have hop2 : ¬ 2 < d.op := by omega
        have hop3 : ¬ 3 ≤ d.op := hop
        go_enter Tryz.func100, Tryz.ntmps100
        go_wp2_with (first | (go_at_call 113; refine (c_impl_LabelKeyOk _ _ (by omega)).mono ?_; rintro e w1 ⟨rfl, rfl⟩) | (go_at_call 80; refine (c_impl_within _ _ _ _).mono ?_; rintro e w' ⟨rfl, rfl⟩))
        go_loopw [25] (fun i wr => ∃ k : Nat, k ≤ d.values.length ∧ i = .int .i64 k ∧ (List.range k).all (stepB lvB lessS d.values) = true ∧ Below w.heap.size w wr ∧ wr.cell? ⟨w.heap.size, 2, none⟩ = some (.slice A d.values.length c) ∧ w.heap.size < wr.heap.size) (fun i _ => d.values.length - (intOf i).toNat)
        case atStart => exact ⟨0, Nat.zero_le _, rfl, rfl, bel, (by first | simp | (rw [hc _ _ (by simp)]; simp)), (by first | (simp; done) | (simp; omega) | omega)⟩
        case round =>
          obtain ⟨k, hk, rfl, hall, hbr, hx, hq0⟩ := hrel
          have Hall := Lib.hid hall
          clear hall
          by_cases hlt : k < d.values.length
          · obtain ⟨b, o, rfl, -, hb2, hcell⟩ := hA (by omega)
            obtain ⟨s, hd⟩ := exists_at hlt
            obtain ⟨es, -, hcs, hC⟩ := hcell k s hd
            obtain ⟨rfl, ea0⟩ := hC
            have hc0 := (hbr.cell (p := ⟨b, o + k * 1 + 0, none⟩) (by simp; omega)).trans (hcs 0 (by omega))
            simp at hc0
            have hbl : b < wr.heap.size := Nat.lt_of_lt_of_le hb2 hbr.size
            clear hcs
            rcases ho : lvB s with _ | _
            · clear hcell hA
              have hk0 : (0 : Int) ≤ k := by omega
              have hk1 : (k : Int) < d.values.length := by omega
              have Hf := Lib.hid (show needOkB d = false by rw [Hin.out, chain_bad lvB lessS d.values k hlt (stepB_no lvB lessS d.values k s hd ho), Bool.and_false])
              go_wp2_with (first | (go_at_call 114; refine (c_impl_LabelValueOk _ _ (by omega)).mono ?_; rintro e w1 ⟨rfl, rfl⟩))
              go_ret
              exact ⟨ret_bool Hf.out.symm, bel⟩
            · rcases k with _ | j
              · clear hcell hA
                have Hn := Lib.hid (show (List.range 1).all (stepB lvB lessS d.values) = true by rw [chain_succ, Hall.out, stepB_zero lvB lessS d.values s hd]; exact ho)
                have hk0 : (0 : Int) < d.values.length := by omega
                (try simp only [Nat.add_zero] at hc0)
                rw [show ((0 : Nat) : Int) = 0 from rfl]
                go_wp2_with (first | (go_at_call 114; refine (c_impl_LabelValueOk _ _ (by omega)).mono ?_; rintro e w1 ⟨rfl, rfl⟩))
                go_roundw
                case rel => exact ⟨1, by omega, by go_num, Hn.out, bel, (by first | exact hx | (rw [hc _ _ hq0]; exact hx)), (by first | exact hq0 | omega)⟩
                case measure => simp [intOf]; omega
              · obtain ⟨s', hd'⟩ := exists_at (show j < d.values.length by omega)
                obtain ⟨es', -, hcs', hC2⟩ := hcell j s' hd'
                obtain ⟨rfl, eb0⟩ := hC2
                have hp0 := (hbr.cell (p := ⟨b, o + j * 1 + 0, none⟩) (by simp; omega)).trans (hcs' 0 (by omega))
                simp at hp0
                clear hcs' hcell hA
                have hk0 : (0 : Int) ≤ j := by omega
                have hk1 : (j : Int) + 1 < d.values.length := by omega
                have Hs := Lib.hid (stepB_succ lvB lessS d.values j s' s hd' hd)
                rcases hcmp : lessS s' s with _ | _
                · have Hf := Lib.hid (show needOkB d = false by rw [Hin.out, chain_bad lvB lessS d.values (j + 1) hlt (by rw [Hs.out, hcmp, Bool.and_false]), Bool.and_false])
                  unfold lessS at hcmp
                  go_wp2_with (first | (go_at_call 114; refine (c_impl_LabelValueOk _ _ (by omega)).mono ?_; rintro e w1 ⟨rfl, rfl⟩))
                  go_ret
                  exact ⟨ret_bool Hf.out.symm, bel⟩
                · have Hn := Lib.hid (show (List.range (j + 1 + 1)).all (stepB lvB lessS d.values) = true by rw [chain_succ, Hall.out, Hs.out, hcmp, ho]; rfl)
                  unfold lessS at hcmp
                  go_wp2_with (first | (go_at_call 114; refine (c_impl_LabelValueOk _ _ (by omega)).mono ?_; rintro e w1 ⟨rfl, rfl⟩))
                  go_roundw
                  case rel => exact ⟨j + 1 + 1, by omega, by go_num, Hn.out, bel, (by first | exact hx | (rw [hc _ _ hq0]; exact hx)), (by first | exact hq0 | omega)⟩
                  case measure => simp [intOf]; omega
          · obtain rfl : k = d.values.length := by omega
            clear hA
            have Hf := Lib.hid (show needOkB d = inB d.values.length 1 4 by rw [Hin.out, chain_all Hall.out, Bool.and_true])
            go_wp2_with (first | (go_at_call 80; refine (c_impl_within _ _ _ _).mono ?_; rintro e w' ⟨rfl, rfl⟩))
            go_ret
            exact ⟨ret_bool Hf.out.symm, bel⟩
set_option maxHeartbeats 4000000 in
theorem c_spec_NeedOk (d : Need) (cs : List Value) (w : World) (lo : Nat) (hs : C_Need lo w.heap.size w d cs) :
    Calls Tryz.prog 93 #[.agg cs.toArray] w fun e w' => e = .returned (.bool (needOkB d)) ∧ Below w.heap.size w w' := by
  obtain ⟨v2, rfl, a0, a1, a2⟩ := hs
  obtain ⟨A, c, rfl, hlc, hcc, hA⟩ := a2
  unfold I64 at a1
  rcases hk : lkB d.key with _ | _
  · have Hf := Lib.hid (needOk_key hk)
    go_enter Tryz.func93, Tryz.ntmps93
    go_wp2_with (first | (go_at_call 107; refine (c_spec_LabelKeyOk _ _ (by omega)).mono ?_; rintro e w1 ⟨rfl, hb⟩; (first | (have hcu2 := Cum.join hcu hb; (try clear hcu); (try clear hc); (try clear hfz); (try clear hsz); (try clear hs0); (try clear hs1); (try clear hs2); (try clear hs3); (try clear hs4); ) | have hcu2 := Cum.mk hb); have hcu := hcu2; clear hcu2; obtain ⟨hc, hfz⟩ := bcell hcu.h; have hsz := hcu.h.size; (try simp at hsz); (try have hs0 := lt_of_succ_le hsz); (try (have hs1 := lt_pred hsz; (try (have hs2 := lt_pred hs1; (try (have hs3 := lt_pred hs2; (try have hs4 := lt_pred hs3)))))))) | (go_at_call 66; refine (c_spec_l01In _ _ _ _).mono ?_; rintro e w' ⟨rfl, rfl⟩))
    go_ret
    exact ⟨ret_bool Hf.out.symm, bel⟩
  · rcases ho : inB d.op 1 4 with _ | _
    · have Hf := Lib.hid (needOk_op ho)
      go_enter Tryz.func93, Tryz.ntmps93
      go_wp2_with (first | (go_at_call 107; refine (c_spec_LabelKeyOk _ _ (by omega)).mono ?_; rintro e w1 ⟨rfl, hb⟩; (first | (have hcu2 := Cum.join hcu hb; (try clear hcu); (try clear hc); (try clear hfz); (try clear hsz); (try clear hs0); (try clear hs1); (try clear hs2); (try clear hs3); (try clear hs4); ) | have hcu2 := Cum.mk hb); have hcu := hcu2; clear hcu2; obtain ⟨hc, hfz⟩ := bcell hcu.h; have hsz := hcu.h.size; (try simp at hsz); (try have hs0 := lt_of_succ_le hsz); (try (have hs1 := lt_pred hsz; (try (have hs2 := lt_pred hs1; (try (have hs3 := lt_pred hs2; (try have hs4 := lt_pred hs3)))))))) | (go_at_call 66; refine (c_spec_l01In _ _ _ _).mono ?_; rintro e w' ⟨rfl, rfl⟩))
      go_ret
      exact ⟨ret_bool Hf.out.symm, bel⟩
    · by_cases hop : 3 ≤ d.op
      · have Hf := Lib.hid (needOk_has hk ho hop)
        have hop2 : 2 < d.op := by omega
        go_enter Tryz.func93, Tryz.ntmps93
        go_wp2_with (first | (go_at_call 107; refine (c_spec_LabelKeyOk _ _ (by omega)).mono ?_; rintro e w1 ⟨rfl, hb⟩; (first | (have hcu2 := Cum.join hcu hb; (try clear hcu); (try clear hc); (try clear hfz); (try clear hsz); (try clear hs0); (try clear hs1); (try clear hs2); (try clear hs3); (try clear hs4); ) | have hcu2 := Cum.mk hb); have hcu := hcu2; clear hcu2; obtain ⟨hc, hfz⟩ := bcell hcu.h; have hsz := hcu.h.size; (try simp at hsz); (try have hs0 := lt_of_succ_le hsz); (try (have hs1 := lt_pred hsz; (try (have hs2 := lt_pred hs1; (try (have hs3 := lt_pred hs2; (try have hs4 := lt_pred hs3)))))))) | (go_at_call 66; refine (c_spec_l01In _ _ _ _).mono ?_; rintro e w' ⟨rfl, rfl⟩))
        go_ret
        exact ⟨ret_bool Hf.out.symm, bel⟩
      · have Hin := Lib.hid (needOk_in hk ho hop)
        have hop2 : ¬ 2 < d.op := by omega
        have hop3 : ¬ 3 ≤ d.op := hop
        rcases hin : inB (d.values.length : Int) 1 4 with _ | _
        · have Hf := Lib.hid (show needOkB d = false by rw [Hin.out, hin, Bool.false_and])
          go_enter Tryz.func93, Tryz.ntmps93
          go_wp2_with (first | (go_at_call 107; refine (c_spec_LabelKeyOk _ _ (by omega)).mono ?_; rintro e w1 ⟨rfl, hb⟩; (first | (have hcu2 := Cum.join hcu hb; (try clear hcu); (try clear hc); (try clear hfz); (try clear hsz); (try clear hs0); (try clear hs1); (try clear hs2); (try clear hs3); (try clear hs4); ) | have hcu2 := Cum.mk hb); have hcu := hcu2; clear hcu2; obtain ⟨hc, hfz⟩ := bcell hcu.h; have hsz := hcu.h.size; (try simp at hsz); (try have hs0 := lt_of_succ_le hsz); (try (have hs1 := lt_pred hsz; (try (have hs2 := lt_pred hs1; (try (have hs3 := lt_pred hs2; (try have hs4 := lt_pred hs3)))))))) | (go_at_call 66; refine (c_spec_l01In _ _ _ _).mono ?_; rintro e w' ⟨rfl, rfl⟩))
          go_ret
          exact ⟨ret_bool Hf.out.symm, bel⟩
        · go_enter Tryz.func93, Tryz.ntmps93
          go_wp2_with (first | (go_at_call 107; refine (c_spec_LabelKeyOk _ _ (by omega)).mono ?_; rintro e w1 ⟨rfl, hb⟩; (first | (have hcu2 := Cum.join hcu hb; (try clear hcu); (try clear hc); (try clear hfz); (try clear hsz); (try clear hs0); (try clear hs1); (try clear hs2); (try clear hs3); (try clear hs4); ) | have hcu2 := Cum.mk hb); have hcu := hcu2; clear hcu2; obtain ⟨hc, hfz⟩ := bcell hcu.h; have hsz := hcu.h.size; (try simp at hsz); (try have hs0 := lt_of_succ_le hsz); (try (have hs1 := lt_pred hsz; (try (have hs2 := lt_pred hs1; (try (have hs3 := lt_pred hs2; (try have hs4 := lt_pred hs3)))))))) | (go_at_call 66; refine (c_spec_l01In _ _ _ _).mono ?_; rintro e w' ⟨rfl, rfl⟩))
          go_loopw [3] (fun i wr => ∃ k : Nat, k ≤ d.values.length ∧ i = .int .i64 k ∧ (List.range k).all (stepB lvB lessS d.values) = true ∧ Below w.heap.size w wr ∧ wr.cell? ⟨w.heap.size, 2, none⟩ = some (.slice A d.values.length c) ∧ w.heap.size < wr.heap.size) (fun i _ => d.values.length - (intOf i).toNat)
          case atStart => exact ⟨0, Nat.zero_le _, rfl, rfl, bel, (by first | simp | (rw [hc _ _ (by simp)]; simp)), (by first | (simp; done) | (simp; omega) | omega)⟩
          case round =>
            obtain ⟨k, hk, rfl, hall, hbr, hx, hq0⟩ := hrel
            have Hall := Lib.hid hall
            clear hall
            by_cases hlt : k < d.values.length
            · obtain ⟨b, o, rfl, -, hb2, hcell⟩ := hA (by omega)
              obtain ⟨s, hd⟩ := exists_at hlt
              obtain ⟨es, -, hcs, hC⟩ := hcell k s hd
              obtain ⟨rfl, ea0⟩ := hC
              have hc0 := (hbr.cell (p := ⟨b, o + k * 1 + 0, none⟩) (by simp; omega)).trans (hcs 0 (by omega))
              simp at hc0
              have hbl : b < wr.heap.size := Nat.lt_of_lt_of_le hb2 hbr.size
              clear hcs
              rcases ho : lvB s with _ | _
              · clear hcell hA
                have hk0 : (0 : Int) ≤ k := by omega
                have hk1 : (k : Int) < d.values.length := by omega
                have Hf := Lib.hid (show needOkB d = false by rw [Hin.out, chain_bad lvB lessS d.values k hlt (stepB_no lvB lessS d.values k s hd ho), Bool.and_false])
                go_wp2_with fail
                refine wp_region_det 25 (by kernel_rfl) (by kernel_rfl) (by decide) ?_
                apply Exists.intro
                refine And.intro ?_ ?_
                · (intro W hW; (try simp only [Act.put, List.setIfInBounds_toArray, List.set_cons_zero, List.set_cons_succ]); first | (go_wp2_with fail; exact ⟨rfl, rfl, Below.refl _ _⟩))
                apply Exists.intro
                refine And.intro ?_ ?_
                · (intro W hW; (try simp only [Act.put, List.setIfInBounds_toArray, List.set_cons_zero, List.set_cons_succ]); first | (obtain ⟨hcW, hfW⟩ := bcell hW; have hsW := hW.size; (try simp at hsW); (try have hsW0 := lt_of_succ_le hsW); (try (have hsW1 := lt_pred hsW; (try (have hsW2 := lt_pred hsW1)))); go_wp2_with fail; exact ⟨rfl, rfl, Below.refl _ _⟩))
                apply Exists.intro
                refine And.intro ?_ ?_
                · (intro W hW; (try simp only [Act.put, List.setIfInBounds_toArray, List.set_cons_zero, List.set_cons_succ]); first | (go_wp2_with fail; exact ⟨rfl, rfl, Below.refl _ _⟩))
                apply Exists.intro
                refine And.intro ?_ ?_
                · (intro W hW; (try simp only [Act.put, List.setIfInBounds_toArray, List.set_cons_zero, List.set_cons_succ]); first | (go_wp2_with fail; exact ⟨rfl, rfl, Below.refl _ _⟩))
                apply Exists.intro
                refine And.intro ?_ ?_
                · (intro W hW; (try simp only [Act.put, List.setIfInBounds_toArray, List.set_cons_zero, List.set_cons_succ]); first | (obtain ⟨hcW, hfW⟩ := bcell hW; have hsW := hW.size; (try simp at hsW); (try have hsW0 := lt_of_succ_le hsW); (try (have hsW1 := lt_pred hsW; (try (have hsW2 := lt_pred hsW1)))); go_wp2_with fail; exact ⟨rfl, rfl, Below.refl _ _⟩))
                apply Exists.intro
                refine And.intro ?_ ?_
                · (intro W hW; (try simp only [Act.put, List.setIfInBounds_toArray, List.set_cons_zero, List.set_cons_succ]); first | (obtain ⟨hcW, hfW⟩ := bcell hW; have hsW := hW.size; (try simp at hsW); (try have hsW0 := lt_of_succ_le hsW); (try (have hsW1 := lt_pred hsW; (try (have hsW2 := lt_pred hsW1)))); go_wp2_with (first | (go_at_call 108; refine (c_spec_LabelValueOk _ _ (by omega)).mono ?_; rintro e w9 ⟨rfl, hb9⟩)); exact ⟨rfl, rfl, bel⟩))
                apply Exists.intro
                refine And.intro ?_ ?_
                · (intro W hW; (try simp only [Act.put, List.setIfInBounds_toArray, List.set_cons_zero, List.set_cons_succ]); first | (go_wp2_with fail; exact ⟨rfl, rfl, Below.refl _ _⟩))
                apply Exists.intro
                refine And.intro ?_ ?_
                · (intro W hW; (try simp only [Act.put, List.setIfInBounds_toArray, List.set_cons_zero, List.set_cons_succ]); first | (go_wp2_with fail; exact ⟨rfl, rfl, Below.refl _ _⟩))
                apply Exists.intro
                refine And.intro ?_ ?_
                · (intro W hW; (try simp only [Act.put, List.setIfInBounds_toArray, List.set_cons_zero, List.set_cons_succ]); first | (exact wpList_skip rfl ⟨rfl, rfl, Below.refl _ _⟩) | (go_wp2_with fail; exact ⟨rfl, rfl, Below.refl _ _⟩))
                apply Exists.intro
                refine And.intro ?_ ?_
                · (intro W hW; (try simp only [Act.put, List.setIfInBounds_toArray, List.set_cons_zero, List.set_cons_succ]); first | (exact wpList_skip rfl ⟨rfl, rfl, Below.refl _ _⟩) | (go_wp2_with fail; exact ⟨rfl, rfl, Below.refl _ _⟩))
                apply Exists.intro
                refine And.intro ?_ ?_
                · (intro W hW; (try simp only [Act.put, List.setIfInBounds_toArray, List.set_cons_zero, List.set_cons_succ]); first | (exact wpList_skip rfl ⟨rfl, rfl, Below.refl _ _⟩) | (go_wp2_with fail; exact ⟨rfl, rfl, Below.refl _ _⟩))
                apply Exists.intro
                refine And.intro ?_ ?_
                · (intro W hW; (try simp only [Act.put, List.setIfInBounds_toArray, List.set_cons_zero, List.set_cons_succ]); first | (exact wpList_skip rfl ⟨rfl, rfl, Below.refl _ _⟩) | (go_wp2_with fail; exact ⟨rfl, rfl, Below.refl _ _⟩))
                apply Exists.intro
                refine And.intro ?_ ?_
                · (intro W hW; (try simp only [Act.put, List.setIfInBounds_toArray, List.set_cons_zero, List.set_cons_succ]); first | (exact wpList_skip rfl ⟨rfl, rfl, Below.refl _ _⟩) | (obtain ⟨hcW, hfW⟩ := bcell hW; have hsW := hW.size; (try simp at hsW); (try have hsW0 := lt_of_succ_le hsW); (try (have hsW1 := lt_pred hsW; (try (have hsW2 := lt_pred hsW1)))); go_wp2_with fail; exact ⟨rfl, rfl, Below.refl _ _⟩))
                apply Exists.intro
                refine And.intro ?_ ?_
                · (intro W hW; (try simp only [Act.put, List.setIfInBounds_toArray, List.set_cons_zero, List.set_cons_succ]); first | (exact wpList_skip rfl ⟨rfl, rfl, Below.refl _ _⟩) | (go_wp2_with fail; exact ⟨rfl, rfl, Below.refl _ _⟩))
                apply Exists.intro
                refine And.intro ?_ ?_
                · (intro W hW; (try simp only [Act.put, List.setIfInBounds_toArray, List.set_cons_zero, List.set_cons_succ]); first | (exact wpList_skip rfl ⟨rfl, rfl, Below.refl _ _⟩) | (go_wp2_with fail; exact ⟨rfl, rfl, Below.refl _ _⟩))
                apply Exists.intro
                refine And.intro ?_ ?_
                · (intro W hW; (try simp only [Act.put, List.setIfInBounds_toArray, List.set_cons_zero, List.set_cons_succ]); first | (exact wpList_skip rfl ⟨rfl, rfl, Below.refl _ _⟩) | (go_wp2_with fail; exact ⟨rfl, rfl, Below.refl _ _⟩))
                apply Exists.intro
                refine And.intro ?_ ?_
                · (intro W hW; (try simp only [Act.put, List.setIfInBounds_toArray, List.set_cons_zero, List.set_cons_succ]); first | (exact wpList_skip rfl ⟨rfl, rfl, Below.refl _ _⟩) | (obtain ⟨hcW, hfW⟩ := bcell hW; have hsW := hW.size; (try simp at hsW); (try have hsW0 := lt_of_succ_le hsW); (try (have hsW1 := lt_pred hsW; (try (have hsW2 := lt_pred hsW1)))); go_wp2_with fail; exact ⟨rfl, rfl, Below.refl _ _⟩))
                apply Exists.intro
                refine And.intro ?_ ?_
                · (intro W hW; (try simp only [Act.put, List.setIfInBounds_toArray, List.set_cons_zero, List.set_cons_succ]); first | (exact wpList_skip rfl ⟨rfl, rfl, Below.refl _ _⟩) | (go_wp2_with fail; exact ⟨rfl, rfl, Below.refl _ _⟩))
                apply Exists.intro
                refine And.intro ?_ ?_
                · (intro W hW; (try simp only [Act.put, List.setIfInBounds_toArray, List.set_cons_zero, List.set_cons_succ]); first | (exact wpList_skip rfl ⟨rfl, rfl, Below.refl _ _⟩) | (obtain ⟨hcW, hfW⟩ := bcell hW; have hsW := hW.size; (try simp at hsW); (try have hsW0 := lt_of_succ_le hsW); (try (have hsW1 := lt_pred hsW; (try (have hsW2 := lt_pred hsW1)))); go_wp2_with fail; exact ⟨rfl, rfl, Below.refl _ _⟩))
                apply Exists.intro
                refine And.intro ?_ ?_
                · (intro W hW; (try simp only [Act.put, List.setIfInBounds_toArray, List.set_cons_zero, List.set_cons_succ]); first | (exact wpList_skip rfl ⟨rfl, rfl, Below.refl _ _⟩) | (go_wp2_with fail; exact ⟨rfl, rfl, Below.refl _ _⟩))
                apply Exists.intro
                refine And.intro ?_ ?_
                · (intro W hW; (try simp only [Act.put, List.setIfInBounds_toArray, List.set_cons_zero, List.set_cons_succ]); first | (exact wpList_skip rfl ⟨rfl, rfl, Below.refl _ _⟩) | (go_wp2_with fail; exact ⟨rfl, rfl, Below.refl _ _⟩))
                apply Exists.intro
                refine And.intro ?_ ?_
                · (intro W hW; (try simp only [Act.put, List.setIfInBounds_toArray, List.set_cons_zero, List.set_cons_succ]); first | (exact wpList_skip rfl ⟨rfl, rfl, Below.refl _ _⟩) | (obtain ⟨hcW, hfW⟩ := bcell hW; have hsW := hW.size; (try simp at hsW); (try have hsW0 := lt_of_succ_le hsW); (try (have hsW1 := lt_pred hsW; (try (have hsW2 := lt_pred hsW1)))); go_wp2_with fail; exact ⟨rfl, rfl, Below.refl _ _⟩))
                apply Exists.intro
                refine And.intro ?_ ?_
                · (intro W hW; (try simp only [Act.put, List.setIfInBounds_toArray, List.set_cons_zero, List.set_cons_succ]); first | (exact wpList_skip rfl ⟨rfl, rfl, Below.refl _ _⟩) | (go_wp2_with fail; exact ⟨rfl, rfl, Below.refl _ _⟩))
                apply Exists.intro
                refine And.intro ?_ ?_
                · (intro W hW; (try simp only [Act.put, List.setIfInBounds_toArray, List.set_cons_zero, List.set_cons_succ]); first | (exact wpList_skip rfl ⟨rfl, rfl, Below.refl _ _⟩) | (go_wp2_with fail; exact ⟨rfl, rfl, Below.refl _ _⟩))
                apply Exists.intro
                refine And.intro ?_ ?_
                · (intro W hW; (try simp only [Act.put, List.setIfInBounds_toArray, List.set_cons_zero, List.set_cons_succ]); first | (go_wp2_with fail; exact ⟨rfl, rfl, Below.refl _ _⟩))
                intro w1 hb
                (first | (have hcu2 := Cum.join hcu hb; (try clear hcu); (try clear hc); (try clear hfz); (try clear hsz); (try clear hs0); (try clear hs1); (try clear hs2); (try clear hs3); (try clear hs4); ) | have hcu2 := Cum.mk hb); have hcu := hcu2; clear hcu2; obtain ⟨hc, hfz⟩ := bcell hcu.h; have hsz := hcu.h.size; (try simp at hsz); (try have hs0 := lt_of_succ_le hsz); (try (have hs1 := lt_pred hsz; (try (have hs2 := lt_pred hs1; (try (have hs3 := lt_pred hs2; (try have hs4 := lt_pred hs3)))))))
                (try simp only [Act.put, List.setIfInBounds_toArray, List.set_cons_zero, List.set_cons_succ])
                (try simp only [List.drop_succ_cons, List.drop_nil])
                go_wp2_with fail
                go_ret
                exact ⟨ret_bool Hf.out.symm, bel⟩
              · rcases k with _ | j
                · clear hcell hA
                  have Hn := Lib.hid (show (List.range 1).all (stepB lvB lessS d.values) = true by rw [chain_succ, Hall.out, stepB_zero lvB lessS d.values s hd]; exact ho)
                  have hk0 : (0 : Int) < d.values.length := by omega
                  (try simp only [Nat.add_zero] at hc0)
                  rw [show ((0 : Nat) : Int) = 0 from rfl]
                  go_wp2_with fail
                  refine wp_region_det 25 (by kernel_rfl) (by kernel_rfl) (by decide) ?_
                  apply Exists.intro
                  refine And.intro ?_ ?_
                  · (intro W hW; (try simp only [Act.put, List.setIfInBounds_toArray, List.set_cons_zero, List.set_cons_succ]); first | (go_wp2_with fail; exact ⟨rfl, rfl, Below.refl _ _⟩))
                  apply Exists.intro
                  refine And.intro ?_ ?_
                  · (intro W hW; (try simp only [Act.put, List.setIfInBounds_toArray, List.set_cons_zero, List.set_cons_succ]); first | (obtain ⟨hcW, hfW⟩ := bcell hW; have hsW := hW.size; (try simp at hsW); (try have hsW0 := lt_of_succ_le hsW); (try (have hsW1 := lt_pred hsW; (try (have hsW2 := lt_pred hsW1)))); go_wp2_with fail; exact ⟨rfl, rfl, Below.refl _ _⟩))
                  apply Exists.intro
                  refine And.intro ?_ ?_
                  · (intro W hW; (try simp only [Act.put, List.setIfInBounds_toArray, List.set_cons_zero, List.set_cons_succ]); first | (go_wp2_with fail; exact ⟨rfl, rfl, Below.refl _ _⟩))
                  apply Exists.intro
                  refine And.intro ?_ ?_
                  · (intro W hW; (try simp only [Act.put, List.setIfInBounds_toArray, List.set_cons_zero, List.set_cons_succ]); first | (go_wp2_with fail; exact ⟨rfl, rfl, Below.refl _ _⟩))
                  apply Exists.intro
                  refine And.intro ?_ ?_
                  · (intro W hW; (try simp only [Act.put, List.setIfInBounds_toArray, List.set_cons_zero, List.set_cons_succ]); first | (obtain ⟨hcW, hfW⟩ := bcell hW; have hsW := hW.size; (try simp at hsW); (try have hsW0 := lt_of_succ_le hsW); (try (have hsW1 := lt_pred hsW; (try (have hsW2 := lt_pred hsW1)))); go_wp2_with fail; exact ⟨rfl, rfl, Below.refl _ _⟩))
                  apply Exists.intro
                  refine And.intro ?_ ?_
                  · (intro W hW; (try simp only [Act.put, List.setIfInBounds_toArray, List.set_cons_zero, List.set_cons_succ]); first | (obtain ⟨hcW, hfW⟩ := bcell hW; have hsW := hW.size; (try simp at hsW); (try have hsW0 := lt_of_succ_le hsW); (try (have hsW1 := lt_pred hsW; (try (have hsW2 := lt_pred hsW1)))); go_wp2_with (first | (go_at_call 108; refine (c_spec_LabelValueOk _ _ (by omega)).mono ?_; rintro e w9 ⟨rfl, hb9⟩)); exact ⟨rfl, rfl, bel⟩))
                  apply Exists.intro
                  refine And.intro ?_ ?_
                  · (intro W hW; (try simp only [Act.put, List.setIfInBounds_toArray, List.set_cons_zero, List.set_cons_succ]); first | (go_wp2_with fail; exact ⟨rfl, rfl, Below.refl _ _⟩))
                  apply Exists.intro
                  refine And.intro ?_ ?_
                  · (intro W hW; (try simp only [Act.put, List.setIfInBounds_toArray, List.set_cons_zero, List.set_cons_succ]); first | (go_wp2_with fail; exact ⟨rfl, rfl, Below.refl _ _⟩))
                  apply Exists.intro
                  refine And.intro ?_ ?_
                  · (intro W hW; (try simp only [Act.put, List.setIfInBounds_toArray, List.set_cons_zero, List.set_cons_succ]); first | (exact wpList_skip rfl ⟨rfl, rfl, Below.refl _ _⟩) | (go_wp2_with fail; exact ⟨rfl, rfl, Below.refl _ _⟩))
                  apply Exists.intro
                  refine And.intro ?_ ?_
                  · (intro W hW; (try simp only [Act.put, List.setIfInBounds_toArray, List.set_cons_zero, List.set_cons_succ]); first | (exact wpList_skip rfl ⟨rfl, rfl, Below.refl _ _⟩) | (go_wp2_with fail; exact ⟨rfl, rfl, Below.refl _ _⟩))
                  apply Exists.intro
                  refine And.intro ?_ ?_
                  · (intro W hW; (try simp only [Act.put, List.setIfInBounds_toArray, List.set_cons_zero, List.set_cons_succ]); first | (exact wpList_skip rfl ⟨rfl, rfl, Below.refl _ _⟩) | (go_wp2_with fail; exact ⟨rfl, rfl, Below.refl _ _⟩))
                  apply Exists.intro
                  refine And.intro ?_ ?_
                  · (intro W hW; (try simp only [Act.put, List.setIfInBounds_toArray, List.set_cons_zero, List.set_cons_succ]); first | (exact wpList_skip rfl ⟨rfl, rfl, Below.refl _ _⟩) | (go_wp2_with fail; exact ⟨rfl, rfl, Below.refl _ _⟩))
                  apply Exists.intro
                  refine And.intro ?_ ?_
                  · (intro W hW; (try simp only [Act.put, List.setIfInBounds_toArray, List.set_cons_zero, List.set_cons_succ]); first | (exact wpList_skip rfl ⟨rfl, rfl, Below.refl _ _⟩) | (obtain ⟨hcW, hfW⟩ := bcell hW; have hsW := hW.size; (try simp at hsW); (try have hsW0 := lt_of_succ_le hsW); (try (have hsW1 := lt_pred hsW; (try (have hsW2 := lt_pred hsW1)))); go_wp2_with fail; exact ⟨rfl, rfl, Below.refl _ _⟩))
                  apply Exists.intro
                  refine And.intro ?_ ?_
                  · (intro W hW; (try simp only [Act.put, List.setIfInBounds_toArray, List.set_cons_zero, List.set_cons_succ]); first | (exact wpList_skip rfl ⟨rfl, rfl, Below.refl _ _⟩) | (go_wp2_with fail; exact ⟨rfl, rfl, Below.refl _ _⟩))
                  apply Exists.intro
                  refine And.intro ?_ ?_
                  · (intro W hW; (try simp only [Act.put, List.setIfInBounds_toArray, List.set_cons_zero, List.set_cons_succ]); first | (exact wpList_skip rfl ⟨rfl, rfl, Below.refl _ _⟩) | (go_wp2_with fail; exact ⟨rfl, rfl, Below.refl _ _⟩))
                  apply Exists.intro
                  refine And.intro ?_ ?_
                  · (intro W hW; (try simp only [Act.put, List.setIfInBounds_toArray, List.set_cons_zero, List.set_cons_succ]); first | (exact wpList_skip rfl ⟨rfl, rfl, Below.refl _ _⟩) | (go_wp2_with fail; exact ⟨rfl, rfl, Below.refl _ _⟩))
                  apply Exists.intro
                  refine And.intro ?_ ?_
                  · (intro W hW; (try simp only [Act.put, List.setIfInBounds_toArray, List.set_cons_zero, List.set_cons_succ]); first | (exact wpList_skip rfl ⟨rfl, rfl, Below.refl _ _⟩) | (obtain ⟨hcW, hfW⟩ := bcell hW; have hsW := hW.size; (try simp at hsW); (try have hsW0 := lt_of_succ_le hsW); (try (have hsW1 := lt_pred hsW; (try (have hsW2 := lt_pred hsW1)))); go_wp2_with fail; exact ⟨rfl, rfl, Below.refl _ _⟩))
                  apply Exists.intro
                  refine And.intro ?_ ?_
                  · (intro W hW; (try simp only [Act.put, List.setIfInBounds_toArray, List.set_cons_zero, List.set_cons_succ]); first | (exact wpList_skip rfl ⟨rfl, rfl, Below.refl _ _⟩) | (go_wp2_with fail; exact ⟨rfl, rfl, Below.refl _ _⟩))
                  apply Exists.intro
                  refine And.intro ?_ ?_
                  · (intro W hW; (try simp only [Act.put, List.setIfInBounds_toArray, List.set_cons_zero, List.set_cons_succ]); first | (exact wpList_skip rfl ⟨rfl, rfl, Below.refl _ _⟩) | (obtain ⟨hcW, hfW⟩ := bcell hW; have hsW := hW.size; (try simp at hsW); (try have hsW0 := lt_of_succ_le hsW); (try (have hsW1 := lt_pred hsW; (try (have hsW2 := lt_pred hsW1)))); go_wp2_with fail; exact ⟨rfl, rfl, Below.refl _ _⟩))
                  apply Exists.intro
                  refine And.intro ?_ ?_
                  · (intro W hW; (try simp only [Act.put, List.setIfInBounds_toArray, List.set_cons_zero, List.set_cons_succ]); first | (exact wpList_skip rfl ⟨rfl, rfl, Below.refl _ _⟩) | (go_wp2_with fail; exact ⟨rfl, rfl, Below.refl _ _⟩))
                  apply Exists.intro
                  refine And.intro ?_ ?_
                  · (intro W hW; (try simp only [Act.put, List.setIfInBounds_toArray, List.set_cons_zero, List.set_cons_succ]); first | (exact wpList_skip rfl ⟨rfl, rfl, Below.refl _ _⟩) | (go_wp2_with fail; exact ⟨rfl, rfl, Below.refl _ _⟩))
                  apply Exists.intro
                  refine And.intro ?_ ?_
                  · (intro W hW; (try simp only [Act.put, List.setIfInBounds_toArray, List.set_cons_zero, List.set_cons_succ]); first | (exact wpList_skip rfl ⟨rfl, rfl, Below.refl _ _⟩) | (obtain ⟨hcW, hfW⟩ := bcell hW; have hsW := hW.size; (try simp at hsW); (try have hsW0 := lt_of_succ_le hsW); (try (have hsW1 := lt_pred hsW; (try (have hsW2 := lt_pred hsW1)))); go_wp2_with fail; exact ⟨rfl, rfl, Below.refl _ _⟩))
                  apply Exists.intro
                  refine And.intro ?_ ?_
                  · (intro W hW; (try simp only [Act.put, List.setIfInBounds_toArray, List.set_cons_zero, List.set_cons_succ]); first | (exact wpList_skip rfl ⟨rfl, rfl, Below.refl _ _⟩) | (go_wp2_with fail; exact ⟨rfl, rfl, Below.refl _ _⟩))
                  apply Exists.intro
                  refine And.intro ?_ ?_
                  · (intro W hW; (try simp only [Act.put, List.setIfInBounds_toArray, List.set_cons_zero, List.set_cons_succ]); first | (exact wpList_skip rfl ⟨rfl, rfl, Below.refl _ _⟩) | (go_wp2_with fail; exact ⟨rfl, rfl, Below.refl _ _⟩))
                  apply Exists.intro
                  refine And.intro ?_ ?_
                  · (intro W hW; (try simp only [Act.put, List.setIfInBounds_toArray, List.set_cons_zero, List.set_cons_succ]); first | (go_wp2_with fail; exact ⟨rfl, rfl, Below.refl _ _⟩))
                  intro w1 hb
                  (first | (have hcu2 := Cum.join hcu hb; (try clear hcu); (try clear hc); (try clear hfz); (try clear hsz); (try clear hs0); (try clear hs1); (try clear hs2); (try clear hs3); (try clear hs4); ) | have hcu2 := Cum.mk hb); have hcu := hcu2; clear hcu2; obtain ⟨hc, hfz⟩ := bcell hcu.h; have hsz := hcu.h.size; (try simp at hsz); (try have hs0 := lt_of_succ_le hsz); (try (have hs1 := lt_pred hsz; (try (have hs2 := lt_pred hs1; (try (have hs3 := lt_pred hs2; (try have hs4 := lt_pred hs3)))))))
                  (try simp only [Act.put, List.setIfInBounds_toArray, List.set_cons_zero, List.set_cons_succ])
                  (try simp only [List.drop_succ_cons, List.drop_nil])
                  go_wp2_with fail
                  go_roundw
                  case rel => exact ⟨1, by omega, by go_num, Hn.out, bel, (by first | exact hx | (rw [hc _ _ hq0]; exact hx)), (by first | exact hq0 | omega)⟩
                  case measure => simp [intOf]; omega
                · obtain ⟨s', hd'⟩ := exists_at (show j < d.values.length by omega)
                  obtain ⟨es', -, hcs', hC2⟩ := hcell j s' hd'
                  obtain ⟨rfl, eb0⟩ := hC2
                  have hp0 := (hbr.cell (p := ⟨b, o + j * 1 + 0, none⟩) (by simp; omega)).trans (hcs' 0 (by omega))
                  simp at hp0
                  clear hcs' hcell hA
                  have hk0 : (0 : Int) ≤ j := by omega
                  have hk1 : (j : Int) + 1 < d.values.length := by omega
                  have Hs := Lib.hid (stepB_succ lvB lessS d.values j s' s hd' hd)
                  rcases hcmp : lessS s' s with _ | _
                  · have Hf := Lib.hid (show needOkB d = false by rw [Hin.out, chain_bad lvB lessS d.values (j + 1) hlt (by rw [Hs.out, hcmp, Bool.and_false]), Bool.and_false])
                    unfold lessS at hcmp
                    go_wp2_with fail
                    refine wp_region_det 25 (by kernel_rfl) (by kernel_rfl) (by decide) ?_
                    apply Exists.intro
                    refine And.intro ?_ ?_
                    · (intro W hW; (try simp only [Act.put, List.setIfInBounds_toArray, List.set_cons_zero, List.set_cons_succ]); first | (go_wp2_with fail; exact ⟨rfl, rfl, Below.refl _ _⟩))
                    apply Exists.intro
                    refine And.intro ?_ ?_
                    · (intro W hW; (try simp only [Act.put, List.setIfInBounds_toArray, List.set_cons_zero, List.set_cons_succ]); first | (obtain ⟨hcW, hfW⟩ := bcell hW; have hsW := hW.size; (try simp at hsW); (try have hsW0 := lt_of_succ_le hsW); (try (have hsW1 := lt_pred hsW; (try (have hsW2 := lt_pred hsW1)))); go_wp2_with fail; exact ⟨rfl, rfl, Below.refl _ _⟩))
                    apply Exists.intro
                    refine And.intro ?_ ?_
                    · (intro W hW; (try simp only [Act.put, List.setIfInBounds_toArray, List.set_cons_zero, List.set_cons_succ]); first | (go_wp2_with fail; exact ⟨rfl, rfl, Below.refl _ _⟩))
                    apply Exists.intro
                    refine And.intro ?_ ?_
                    · (intro W hW; (try simp only [Act.put, List.setIfInBounds_toArray, List.set_cons_zero, List.set_cons_succ]); first | (go_wp2_with fail; exact ⟨rfl, rfl, Below.refl _ _⟩))
                    apply Exists.intro
                    refine And.intro ?_ ?_
                    · (intro W hW; (try simp only [Act.put, List.setIfInBounds_toArray, List.set_cons_zero, List.set_cons_succ]); first | (obtain ⟨hcW, hfW⟩ := bcell hW; have hsW := hW.size; (try simp at hsW); (try have hsW0 := lt_of_succ_le hsW); (try (have hsW1 := lt_pred hsW; (try (have hsW2 := lt_pred hsW1)))); go_wp2_with fail; exact ⟨rfl, rfl, Below.refl _ _⟩))
                    apply Exists.intro
                    refine And.intro ?_ ?_
                    · (intro W hW; (try simp only [Act.put, List.setIfInBounds_toArray, List.set_cons_zero, List.set_cons_succ]); first | (obtain ⟨hcW, hfW⟩ := bcell hW; have hsW := hW.size; (try simp at hsW); (try have hsW0 := lt_of_succ_le hsW); (try (have hsW1 := lt_pred hsW; (try (have hsW2 := lt_pred hsW1)))); go_wp2_with (first | (go_at_call 108; refine (c_spec_LabelValueOk _ _ (by omega)).mono ?_; rintro e w9 ⟨rfl, hb9⟩)); exact ⟨rfl, rfl, bel⟩))
                    apply Exists.intro
                    refine And.intro ?_ ?_
                    · (intro W hW; (try simp only [Act.put, List.setIfInBounds_toArray, List.set_cons_zero, List.set_cons_succ]); first | (go_wp2_with fail; exact ⟨rfl, rfl, Below.refl _ _⟩))
                    apply Exists.intro
                    refine And.intro ?_ ?_
                    · (intro W hW; (try simp only [Act.put, List.setIfInBounds_toArray, List.set_cons_zero, List.set_cons_succ]); first | (go_wp2_with fail; exact ⟨rfl, rfl, Below.refl _ _⟩))
                    apply Exists.intro
                    refine And.intro ?_ ?_
                    · (intro W hW; (try simp only [Act.put, List.setIfInBounds_toArray, List.set_cons_zero, List.set_cons_succ]); first | (exact wpList_skip rfl ⟨rfl, rfl, Below.refl _ _⟩) | (go_wp2_with fail; exact ⟨rfl, rfl, Below.refl _ _⟩))
                    apply Exists.intro
                    refine And.intro ?_ ?_
                    · (intro W hW; (try simp only [Act.put, List.setIfInBounds_toArray, List.set_cons_zero, List.set_cons_succ]); first | (exact wpList_skip rfl ⟨rfl, rfl, Below.refl _ _⟩) | (go_wp2_with fail; exact ⟨rfl, rfl, Below.refl _ _⟩))
                    apply Exists.intro
                    refine And.intro ?_ ?_
                    · (intro W hW; (try simp only [Act.put, List.setIfInBounds_toArray, List.set_cons_zero, List.set_cons_succ]); first | (exact wpList_skip rfl ⟨rfl, rfl, Below.refl _ _⟩) | (go_wp2_with fail; exact ⟨rfl, rfl, Below.refl _ _⟩))
                    apply Exists.intro
                    refine And.intro ?_ ?_
                    · (intro W hW; (try simp only [Act.put, List.setIfInBounds_toArray, List.set_cons_zero, List.set_cons_succ]); first | (exact wpList_skip rfl ⟨rfl, rfl, Below.refl _ _⟩) | (go_wp2_with fail; exact ⟨rfl, rfl, Below.refl _ _⟩))
                    apply Exists.intro
                    refine And.intro ?_ ?_
                    · (intro W hW; (try simp only [Act.put, List.setIfInBounds_toArray, List.set_cons_zero, List.set_cons_succ]); first | (exact wpList_skip rfl ⟨rfl, rfl, Below.refl _ _⟩) | (obtain ⟨hcW, hfW⟩ := bcell hW; have hsW := hW.size; (try simp at hsW); (try have hsW0 := lt_of_succ_le hsW); (try (have hsW1 := lt_pred hsW; (try (have hsW2 := lt_pred hsW1)))); go_wp2_with fail; exact ⟨rfl, rfl, Below.refl _ _⟩))
                    apply Exists.intro
                    refine And.intro ?_ ?_
                    · (intro W hW; (try simp only [Act.put, List.setIfInBounds_toArray, List.set_cons_zero, List.set_cons_succ]); first | (exact wpList_skip rfl ⟨rfl, rfl, Below.refl _ _⟩) | (go_wp2_with fail; exact ⟨rfl, rfl, Below.refl _ _⟩))
                    apply Exists.intro
                    refine And.intro ?_ ?_
                    · (intro W hW; (try simp only [Act.put, List.setIfInBounds_toArray, List.set_cons_zero, List.set_cons_succ]); first | (exact wpList_skip rfl ⟨rfl, rfl, Below.refl _ _⟩) | (go_wp2_with fail; exact ⟨rfl, rfl, Below.refl _ _⟩))
                    apply Exists.intro
                    refine And.intro ?_ ?_
                    · (intro W hW; (try simp only [Act.put, List.setIfInBounds_toArray, List.set_cons_zero, List.set_cons_succ]); first | (exact wpList_skip rfl ⟨rfl, rfl, Below.refl _ _⟩) | (go_wp2_with fail; exact ⟨rfl, rfl, Below.refl _ _⟩))
                    apply Exists.intro
                    refine And.intro ?_ ?_
                    · (intro W hW; (try simp only [Act.put, List.setIfInBounds_toArray, List.set_cons_zero, List.set_cons_succ]); first | (exact wpList_skip rfl ⟨rfl, rfl, Below.refl _ _⟩) | (obtain ⟨hcW, hfW⟩ := bcell hW; have hsW := hW.size; (try simp at hsW); (try have hsW0 := lt_of_succ_le hsW); (try (have hsW1 := lt_pred hsW; (try (have hsW2 := lt_pred hsW1)))); go_wp2_with fail; exact ⟨rfl, rfl, Below.refl _ _⟩))
                    apply Exists.intro
                    refine And.intro ?_ ?_
                    · (intro W hW; (try simp only [Act.put, List.setIfInBounds_toArray, List.set_cons_zero, List.set_cons_succ]); first | (exact wpList_skip rfl ⟨rfl, rfl, Below.refl _ _⟩) | (go_wp2_with fail; exact ⟨rfl, rfl, Below.refl _ _⟩))
                    apply Exists.intro
                    refine And.intro ?_ ?_
                    · (intro W hW; (try simp only [Act.put, List.setIfInBounds_toArray, List.set_cons_zero, List.set_cons_succ]); first | (exact wpList_skip rfl ⟨rfl, rfl, Below.refl _ _⟩) | (obtain ⟨hcW, hfW⟩ := bcell hW; have hsW := hW.size; (try simp at hsW); (try have hsW0 := lt_of_succ_le hsW); (try (have hsW1 := lt_pred hsW; (try (have hsW2 := lt_pred hsW1)))); go_wp2_with fail; exact ⟨rfl, rfl, Below.refl _ _⟩))
                    apply Exists.intro
                    refine And.intro ?_ ?_
                    · (intro W hW; (try simp only [Act.put, List.setIfInBounds_toArray, List.set_cons_zero, List.set_cons_succ]); first | (exact wpList_skip rfl ⟨rfl, rfl, Below.refl _ _⟩) | (go_wp2_with fail; exact ⟨rfl, rfl, Below.refl _ _⟩))
                    apply Exists.intro
                    refine And.intro ?_ ?_
                    · (intro W hW; (try simp only [Act.put, List.setIfInBounds_toArray, List.set_cons_zero, List.set_cons_succ]); first | (exact wpList_skip rfl ⟨rfl, rfl, Below.refl _ _⟩) | (go_wp2_with fail; exact ⟨rfl, rfl, Below.refl _ _⟩))
                    apply Exists.intro
                    refine And.intro ?_ ?_
                    · (intro W hW; (try simp only [Act.put, List.setIfInBounds_toArray, List.set_cons_zero, List.set_cons_succ]); first | (exact wpList_skip rfl ⟨rfl, rfl, Below.refl _ _⟩) | (obtain ⟨hcW, hfW⟩ := bcell hW; have hsW := hW.size; (try simp at hsW); (try have hsW0 := lt_of_succ_le hsW); (try (have hsW1 := lt_pred hsW; (try (have hsW2 := lt_pred hsW1)))); go_wp2_with fail; exact ⟨rfl, rfl, Below.refl _ _⟩))
                    apply Exists.intro
                    refine And.intro ?_ ?_
                    · (intro W hW; (try simp only [Act.put, List.setIfInBounds_toArray, List.set_cons_zero, List.set_cons_succ]); first | (exact wpList_skip rfl ⟨rfl, rfl, Below.refl _ _⟩) | (go_wp2_with fail; exact ⟨rfl, rfl, Below.refl _ _⟩))
                    apply Exists.intro
                    refine And.intro ?_ ?_
                    · (intro W hW; (try simp only [Act.put, List.setIfInBounds_toArray, List.set_cons_zero, List.set_cons_succ]); first | (exact wpList_skip rfl ⟨rfl, rfl, Below.refl _ _⟩) | (go_wp2_with fail; exact ⟨rfl, rfl, Below.refl _ _⟩))
                    apply Exists.intro
                    refine And.intro ?_ ?_
                    · (intro W hW; (try simp only [Act.put, List.setIfInBounds_toArray, List.set_cons_zero, List.set_cons_succ]); first | (go_wp2_with fail; exact ⟨rfl, rfl, Below.refl _ _⟩))
                    intro w1 hb
                    (first | (have hcu2 := Cum.join hcu hb; (try clear hcu); (try clear hc); (try clear hfz); (try clear hsz); (try clear hs0); (try clear hs1); (try clear hs2); (try clear hs3); (try clear hs4); ) | have hcu2 := Cum.mk hb); have hcu := hcu2; clear hcu2; obtain ⟨hc, hfz⟩ := bcell hcu.h; have hsz := hcu.h.size; (try simp at hsz); (try have hs0 := lt_of_succ_le hsz); (try (have hs1 := lt_pred hsz; (try (have hs2 := lt_pred hs1; (try (have hs3 := lt_pred hs2; (try have hs4 := lt_pred hs3)))))))
                    (try simp only [Act.put, List.setIfInBounds_toArray, List.set_cons_zero, List.set_cons_succ])
                    (try simp only [List.drop_succ_cons, List.drop_nil])
                    go_wp2_with fail
                    go_ret
                    exact ⟨ret_bool Hf.out.symm, bel⟩
                  · have Hn := Lib.hid (show (List.range (j + 1 + 1)).all (stepB lvB lessS d.values) = true by rw [chain_succ, Hall.out, Hs.out, hcmp, ho]; rfl)
                    unfold lessS at hcmp
                    go_wp2_with fail
                    refine wp_region_det 25 (by kernel_rfl) (by kernel_rfl) (by decide) ?_
                    apply Exists.intro
                    refine And.intro ?_ ?_
                    · (intro W hW; (try simp only [Act.put, List.setIfInBounds_toArray, List.set_cons_zero, List.set_cons_succ]); first | (go_wp2_with fail; exact ⟨rfl, rfl, Below.refl _ _⟩))
                    apply Exists.intro
                    refine And.intro ?_ ?_
                    · (intro W hW; (try simp only [Act.put, List.setIfInBounds_toArray, List.set_cons_zero, List.set_cons_succ]); first | (obtain ⟨hcW, hfW⟩ := bcell hW; have hsW := hW.size; (try simp at hsW); (try have hsW0 := lt_of_succ_le hsW); (try (have hsW1 := lt_pred hsW; (try (have hsW2 := lt_pred hsW1)))); go_wp2_with fail; exact ⟨rfl, rfl, Below.refl _ _⟩))
                    apply Exists.intro
                    refine And.intro ?_ ?_
                    · (intro W hW; (try simp only [Act.put, List.setIfInBounds_toArray, List.set_cons_zero, List.set_cons_succ]); first | (go_wp2_with fail; exact ⟨rfl, rfl, Below.refl _ _⟩))
                    apply Exists.intro
                    refine And.intro ?_ ?_
                    · (intro W hW; (try simp only [Act.put, List.setIfInBounds_toArray, List.set_cons_zero, List.set_cons_succ]); first | (go_wp2_with fail; exact ⟨rfl, rfl, Below.refl _ _⟩))
                    apply Exists.intro
                    refine And.intro ?_ ?_
                    · (intro W hW; (try simp only [Act.put, List.setIfInBounds_toArray, List.set_cons_zero, List.set_cons_succ]); first | (obtain ⟨hcW, hfW⟩ := bcell hW; have hsW := hW.size; (try simp at hsW); (try have hsW0 := lt_of_succ_le hsW); (try (have hsW1 := lt_pred hsW; (try (have hsW2 := lt_pred hsW1)))); go_wp2_with fail; exact ⟨rfl, rfl, Below.refl _ _⟩))
                    apply Exists.intro
                    refine And.intro ?_ ?_
                    · (intro W hW; (try simp only [Act.put, List.setIfInBounds_toArray, List.set_cons_zero, List.set_cons_succ]); first | (obtain ⟨hcW, hfW⟩ := bcell hW; have hsW := hW.size; (try simp at hsW); (try have hsW0 := lt_of_succ_le hsW); (try (have hsW1 := lt_pred hsW; (try (have hsW2 := lt_pred hsW1)))); go_wp2_with (first | (go_at_call 108; refine (c_spec_LabelValueOk _ _ (by omega)).mono ?_; rintro e w9 ⟨rfl, hb9⟩)); exact ⟨rfl, rfl, bel⟩))
                    apply Exists.intro
                    refine And.intro ?_ ?_
                    · (intro W hW; (try simp only [Act.put, List.setIfInBounds_toArray, List.set_cons_zero, List.set_cons_succ]); first | (go_wp2_with fail; exact ⟨rfl, rfl, Below.refl _ _⟩))
                    apply Exists.intro
                    refine And.intro ?_ ?_
                    · (intro W hW; (try simp only [Act.put, List.setIfInBounds_toArray, List.set_cons_zero, List.set_cons_succ]); first | (go_wp2_with fail; exact ⟨rfl, rfl, Below.refl _ _⟩))
                    apply Exists.intro
                    refine And.intro ?_ ?_
                    · (intro W hW; (try simp only [Act.put, List.setIfInBounds_toArray, List.set_cons_zero, List.set_cons_succ]); first | (exact wpList_skip rfl ⟨rfl, rfl, Below.refl _ _⟩) | (go_wp2_with fail; exact ⟨rfl, rfl, Below.refl _ _⟩))
                    apply Exists.intro
                    refine And.intro ?_ ?_
                    · (intro W hW; (try simp only [Act.put, List.setIfInBounds_toArray, List.set_cons_zero, List.set_cons_succ]); first | (exact wpList_skip rfl ⟨rfl, rfl, Below.refl _ _⟩) | (go_wp2_with fail; exact ⟨rfl, rfl, Below.refl _ _⟩))
                    apply Exists.intro
                    refine And.intro ?_ ?_
                    · (intro W hW; (try simp only [Act.put, List.setIfInBounds_toArray, List.set_cons_zero, List.set_cons_succ]); first | (exact wpList_skip rfl ⟨rfl, rfl, Below.refl _ _⟩) | (go_wp2_with fail; exact ⟨rfl, rfl, Below.refl _ _⟩))
                    apply Exists.intro
                    refine And.intro ?_ ?_
                    · (intro W hW; (try simp only [Act.put, List.setIfInBounds_toArray, List.set_cons_zero, List.set_cons_succ]); first | (exact wpList_skip rfl ⟨rfl, rfl, Below.refl _ _⟩) | (go_wp2_with fail; exact ⟨rfl, rfl, Below.refl _ _⟩))
                    apply Exists.intro
                    refine And.intro ?_ ?_
                    · (intro W hW; (try simp only [Act.put, List.setIfInBounds_toArray, List.set_cons_zero, List.set_cons_succ]); first | (exact wpList_skip rfl ⟨rfl, rfl, Below.refl _ _⟩) | (obtain ⟨hcW, hfW⟩ := bcell hW; have hsW := hW.size; (try simp at hsW); (try have hsW0 := lt_of_succ_le hsW); (try (have hsW1 := lt_pred hsW; (try (have hsW2 := lt_pred hsW1)))); go_wp2_with fail; exact ⟨rfl, rfl, Below.refl _ _⟩))
                    apply Exists.intro
                    refine And.intro ?_ ?_
                    · (intro W hW; (try simp only [Act.put, List.setIfInBounds_toArray, List.set_cons_zero, List.set_cons_succ]); first | (exact wpList_skip rfl ⟨rfl, rfl, Below.refl _ _⟩) | (go_wp2_with fail; exact ⟨rfl, rfl, Below.refl _ _⟩))
                    apply Exists.intro
                    refine And.intro ?_ ?_
                    · (intro W hW; (try simp only [Act.put, List.setIfInBounds_toArray, List.set_cons_zero, List.set_cons_succ]); first | (exact wpList_skip rfl ⟨rfl, rfl, Below.refl _ _⟩) | (go_wp2_with fail; exact ⟨rfl, rfl, Below.refl _ _⟩))
                    apply Exists.intro
                    refine And.intro ?_ ?_
                    · (intro W hW; (try simp only [Act.put, List.setIfInBounds_toArray, List.set_cons_zero, List.set_cons_succ]); first | (exact wpList_skip rfl ⟨rfl, rfl, Below.refl _ _⟩) | (go_wp2_with fail; exact ⟨rfl, rfl, Below.refl _ _⟩))
                    apply Exists.intro
                    refine And.intro ?_ ?_
                    · (intro W hW; (try simp only [Act.put, List.setIfInBounds_toArray, List.set_cons_zero, List.set_cons_succ]); first | (exact wpList_skip rfl ⟨rfl, rfl, Below.refl _ _⟩) | (obtain ⟨hcW, hfW⟩ := bcell hW; have hsW := hW.size; (try simp at hsW); (try have hsW0 := lt_of_succ_le hsW); (try (have hsW1 := lt_pred hsW; (try (have hsW2 := lt_pred hsW1)))); go_wp2_with fail; exact ⟨rfl, rfl, Below.refl _ _⟩))
                    apply Exists.intro
                    refine And.intro ?_ ?_
                    · (intro W hW; (try simp only [Act.put, List.setIfInBounds_toArray, List.set_cons_zero, List.set_cons_succ]); first | (exact wpList_skip rfl ⟨rfl, rfl, Below.refl _ _⟩) | (go_wp2_with fail; exact ⟨rfl, rfl, Below.refl _ _⟩))
                    apply Exists.intro
                    refine And.intro ?_ ?_
                    · (intro W hW; (try simp only [Act.put, List.setIfInBounds_toArray, List.set_cons_zero, List.set_cons_succ]); first | (exact wpList_skip rfl ⟨rfl, rfl, Below.refl _ _⟩) | (obtain ⟨hcW, hfW⟩ := bcell hW; have hsW := hW.size; (try simp at hsW); (try have hsW0 := lt_of_succ_le hsW); (try (have hsW1 := lt_pred hsW; (try (have hsW2 := lt_pred hsW1)))); go_wp2_with fail; exact ⟨rfl, rfl, Below.refl _ _⟩))
                    apply Exists.intro
                    refine And.intro ?_ ?_
                    · (intro W hW; (try simp only [Act.put, List.setIfInBounds_toArray, List.set_cons_zero, List.set_cons_succ]); first | (exact wpList_skip rfl ⟨rfl, rfl, Below.refl _ _⟩) | (go_wp2_with fail; exact ⟨rfl, rfl, Below.refl _ _⟩))
                    apply Exists.intro
                    refine And.intro ?_ ?_
                    · (intro W hW; (try simp only [Act.put, List.setIfInBounds_toArray, List.set_cons_zero, List.set_cons_succ]); first | (exact wpList_skip rfl ⟨rfl, rfl, Below.refl _ _⟩) | (go_wp2_with fail; exact ⟨rfl, rfl, Below.refl _ _⟩))
                    apply Exists.intro
                    refine And.intro ?_ ?_
                    · (intro W hW; (try simp only [Act.put, List.setIfInBounds_toArray, List.set_cons_zero, List.set_cons_succ]); first | (exact wpList_skip rfl ⟨rfl, rfl, Below.refl _ _⟩) | (obtain ⟨hcW, hfW⟩ := bcell hW; have hsW := hW.size; (try simp at hsW); (try have hsW0 := lt_of_succ_le hsW); (try (have hsW1 := lt_pred hsW; (try (have hsW2 := lt_pred hsW1)))); go_wp2_with fail; exact ⟨rfl, rfl, Below.refl _ _⟩))
                    apply Exists.intro
                    refine And.intro ?_ ?_
                    · (intro W hW; (try simp only [Act.put, List.setIfInBounds_toArray, List.set_cons_zero, List.set_cons_succ]); first | (exact wpList_skip rfl ⟨rfl, rfl, Below.refl _ _⟩) | (go_wp2_with fail; exact ⟨rfl, rfl, Below.refl _ _⟩))
                    apply Exists.intro
                    refine And.intro ?_ ?_
                    · (intro W hW; (try simp only [Act.put, List.setIfInBounds_toArray, List.set_cons_zero, List.set_cons_succ]); first | (exact wpList_skip rfl ⟨rfl, rfl, Below.refl _ _⟩) | (go_wp2_with fail; exact ⟨rfl, rfl, Below.refl _ _⟩))
                    apply Exists.intro
                    refine And.intro ?_ ?_
                    · (intro W hW; (try simp only [Act.put, List.setIfInBounds_toArray, List.set_cons_zero, List.set_cons_succ]); first | (go_wp2_with fail; exact ⟨rfl, rfl, Below.refl _ _⟩))
                    intro w1 hb
                    (first | (have hcu2 := Cum.join hcu hb; (try clear hcu); (try clear hc); (try clear hfz); (try clear hsz); (try clear hs0); (try clear hs1); (try clear hs2); (try clear hs3); (try clear hs4); ) | have hcu2 := Cum.mk hb); have hcu := hcu2; clear hcu2; obtain ⟨hc, hfz⟩ := bcell hcu.h; have hsz := hcu.h.size; (try simp at hsz); (try have hs0 := lt_of_succ_le hsz); (try (have hs1 := lt_pred hsz; (try (have hs2 := lt_pred hs1; (try (have hs3 := lt_pred hs2; (try have hs4 := lt_pred hs3)))))))
                    (try simp only [Act.put, List.setIfInBounds_toArray, List.set_cons_zero, List.set_cons_succ])
                    (try simp only [List.drop_succ_cons, List.drop_nil])
                    go_wp2_with fail
                    go_roundw
                    case rel => exact ⟨j + 1 + 1, by omega, by go_num, Hn.out, bel, (by first | exact hx | (rw [hc _ _ hq0]; exact hx)), (by first | exact hq0 | omega)⟩
                    case measure => simp [intOf]; omega
            · obtain rfl : k = d.values.length := by omega
              clear hA
              have Hf := Lib.hid (show needOkB d = true by rw [Hin.out, chain_all Hall.out, hin, Bool.and_true])
              go_wp2_with fail
              go_ret
              exact ⟨ret_bool Hf.out.symm, bel⟩
end Go.Proofs.YteecgklmdfockaaGreatDoor
