/- Written by wip/tools/pack.py: the texts that FnExactPodNormal needs, without what it does not need. No conditions. -/
import Derived.Test.YtmhlnbihppojmaaGreatKFnExactPodNormal19
import Derived.Test.YtmhlnbihppojmaaGreatKFnExactPodNormal20
import Derived.Test.YtmhlnbihppojmaaGreatKFnExactPodNormal2
import Derived.Test.YtmhlnbihppojmaaGreatKFnExactPodNormal21
namespace Go.Proofs.YtmhlnbihppojmaaGreat
open Go.RowKit
set_option maxHeartbeats 2000000 in
theorem c_laws_heldLabelS (l : List Label) (v : Value) (x : Int) (w : World) (lo : Nat) (hs : Sl_Label lo w.heap.size w l v) (hm : MkLabels x l) (h1 : 0 < x) (h2 : x + 2 * l.length ≤ 1152921504606846976) :
    Calls Tryz.prog 74 #[v, .int .i64 x] w fun e w' => e = .returned (.int .i64 (x + 2 * l.length)) ∧ Below w.heap.size w w' := by
  obtain ⟨A, c, rfl, hlc, hc, hA⟩ := hs
  have Hm := Lib.hid hm
  clear hm
  go_enter Tryz.func74, Tryz.ntmps74
  go_wp2_with fail
  go_loopw [1, 5] (fun y i wr => ∃ k : Nat, k ≤ l.length ∧ i = .int .i64 k ∧ y = .int .i64 (x + 2 * k) ∧ Below w.heap.size w wr) (fun _ i _ => l.length - (intOf i).toNat)
  case atStart => exact ⟨0, Nat.zero_le _, rfl, by simp, bel⟩
  case round =>
    obtain ⟨k, hk, rfl, rfl, hbr⟩ := hrel
    by_cases hlt : k < l.length
    · obtain ⟨b, o, rfl, -, hb2, hcell⟩ := hA (by omega)
      obtain ⟨d, hd⟩ := exists_at hlt
      obtain ⟨es, -, hcs, hC⟩ := hcell k d hd
      unfold C_Label at hC
      obtain ⟨rfl, -⟩ := hC
      have hdm := Hm.out k d hd
      obtain ⟨y, hy⟩ : ∃ y : Int, y = x + 2 * k := ⟨_, rfl⟩
      have hy0 : 0 < y := by omega
      have hy1 : y + 2 ≤ 1152921504606846976 := by omega
      rw [← hy] at hdm ⊢
      have Hy := Lib.hid hy
      subst hdm
      clear hy
      have hc0 := (hbr.cell (p := ⟨b, o + k * 2 + 0, none⟩) (by simp; omega)).trans (hcs 0 (by omega))
      have hc1 := (hbr.cell (p := ⟨b, o + k * 2 + 1, none⟩) (by simp; omega)).trans (hcs 1 (by omega))
      simp [mkLabel] at hc0 hc1
      have hbl : b < wr.heap.size := Nat.lt_of_lt_of_le hb2 hbr.size
      have hk0 : (0 : Int) ≤ k := by omega
      have hk1 : (k : Int) < l.length := by omega
      clear hcs hcell hA hd
      go_wp2_with fail
      refine wp_region_det 8 (by kernel_rfl) (by kernel_rfl) (by decide) ?_
      apply Exists.intro
      refine And.intro ?_ ?_
      · (intro W hW; (try simp only [Act.put, List.setIfInBounds_toArray, List.set_cons_zero, List.set_cons_succ]); first | (go_wp2_with fail; exact ⟨rfl, rfl, Below.refl _ _⟩))
      apply Exists.intro
      refine And.intro ?_ ?_
      · (intro W hW; (try simp only [Act.put, List.setIfInBounds_toArray, List.set_cons_zero, List.set_cons_succ]); first | (go_wp2_with fail; exact ⟨rfl, rfl, Below.refl _ _⟩))
      apply Exists.intro
      refine And.intro ?_ ?_
      · (intro W hW; (try simp only [Act.put, List.setIfInBounds_toArray, List.set_cons_zero, List.set_cons_succ]); first | (go_wp2_with fail; exact ⟨rfl, rfl, Below.refl _ _⟩))
      apply Exists.intro
      refine And.intro ?_ ?_
      · (intro W hW; (try simp only [Act.put, List.setIfInBounds_toArray, List.set_cons_zero, List.set_cons_succ]); first | (go_wp2_with fail; exact ⟨rfl, rfl, Below.refl _ _⟩))
      apply Exists.intro
      refine And.intro ?_ ?_
      · (intro W hW; (try simp only [Act.put, List.setIfInBounds_toArray, List.set_cons_zero, List.set_cons_succ]); first | (obtain ⟨hcW, hfW⟩ := bcell hW; have hsW := hW.size; (try simp at hsW); (try have hsW0 := lt_of_succ_le hsW); (try (have hsW1 := lt_pred hsW; (try (have hsW2 := lt_pred hsW1)))); go_wp2_with fail; exact ⟨rfl, rfl, Below.refl _ _⟩))
      apply Exists.intro
      refine And.intro ?_ ?_
      · (intro W hW; (try simp only [Act.put, List.setIfInBounds_toArray, List.set_cons_zero, List.set_cons_succ]); first | (go_wp2_with fail; exact ⟨rfl, rfl, Below.refl _ _⟩))
      apply Exists.intro
      refine And.intro ?_ ?_
      · (intro W hW; (try simp only [Act.put, List.setIfInBounds_toArray, List.set_cons_zero, List.set_cons_succ]); first | (obtain ⟨hcW, hfW⟩ := bcell hW; have hsW := hW.size; (try simp at hsW); (try have hsW0 := lt_of_succ_le hsW); (try (have hsW1 := lt_pred hsW; (try (have hsW2 := lt_pred hsW1)))); go_wp2_with (first | (go_at_call 134; refine (c_laws_markText _ _ (by omega) (by omega)).mono ?_; rintro e w9 ⟨rfl, hb9⟩)); exact ⟨rfl, rfl, bel⟩))
      apply Exists.intro
      refine And.intro ?_ ?_
      · (intro W hW; (try simp only [Act.put, List.setIfInBounds_toArray, List.set_cons_zero, List.set_cons_succ]); first | (go_wp2_with fail; exact ⟨rfl, rfl, Below.refl _ _⟩))
      intro w1 hb
      (first | (have hcu2 := Cum.join hcu hb; (try clear hcu); (try clear hc); (try clear hfz); (try clear hsz); (try clear hs0); (try clear hs1); (try clear hs2); (try clear hs3); (try clear hs4); ) | have hcu2 := Cum.mk hb); have hcu := hcu2; clear hcu2; obtain ⟨hc, hfz⟩ := bcell hcu.h; have hsz := hcu.h.size; (try simp at hsz); (try have hs0 := lt_of_succ_le hsz); (try (have hs1 := lt_pred hsz; (try (have hs2 := lt_pred hs1; (try (have hs3 := lt_pred hs2; (try have hs4 := lt_pred hs3)))))))
      (try simp only [Act.put, List.setIfInBounds_toArray, List.set_cons_zero, List.set_cons_succ])
      (try simp only [List.drop_succ_cons, List.drop_nil])
      have hr00 := (hb.cell (p := ⟨b, o + k * 2, none⟩) (by simpa using hbl)).trans hc0
      have hr01 := (hb.cell (p := ⟨b, o + k * 2 + 1, none⟩) (by simpa using hbl)).trans hc1
      have hbl0 := Nat.lt_of_lt_of_le hbl hb.size
      have Bn0 := hbr.trans (hb.mono hbr.size)
      clear hc0 hc1 hbl hcu hc hfz hb
      (try clear hsz); (try clear hs0); (try clear hs1); (try clear hs2)
      go_wp2_with fail
      refine wp_region_det 8 (by kernel_rfl) (by kernel_rfl) (by decide) ?_
      apply Exists.intro
      refine And.intro ?_ ?_
      · (intro W hW; (try simp only [Act.put, List.setIfInBounds_toArray, List.set_cons_zero, List.set_cons_succ]); first | (go_wp2_with fail; exact ⟨rfl, rfl, Below.refl _ _⟩))
      apply Exists.intro
      refine And.intro ?_ ?_
      · (intro W hW; (try simp only [Act.put, List.setIfInBounds_toArray, List.set_cons_zero, List.set_cons_succ]); first | (go_wp2_with fail; exact ⟨rfl, rfl, Below.refl _ _⟩))
      apply Exists.intro
      refine And.intro ?_ ?_
      · (intro W hW; (try simp only [Act.put, List.setIfInBounds_toArray, List.set_cons_zero, List.set_cons_succ]); first | (go_wp2_with fail; exact ⟨rfl, rfl, Below.refl _ _⟩))
      apply Exists.intro
      refine And.intro ?_ ?_
      · (intro W hW; (try simp only [Act.put, List.setIfInBounds_toArray, List.set_cons_zero, List.set_cons_succ]); first | (go_wp2_with fail; exact ⟨rfl, rfl, Below.refl _ _⟩))
      apply Exists.intro
      refine And.intro ?_ ?_
      · (intro W hW; (try simp only [Act.put, List.setIfInBounds_toArray, List.set_cons_zero, List.set_cons_succ]); first | (obtain ⟨hcW, hfW⟩ := bcell hW; have hsW := hW.size; (try simp at hsW); (try have hsW0 := lt_of_succ_le hsW); (try (have hsW1 := lt_pred hsW; (try (have hsW2 := lt_pred hsW1)))); go_wp2_with fail; exact ⟨rfl, rfl, Below.refl _ _⟩))
      apply Exists.intro
      refine And.intro ?_ ?_
      · (intro W hW; (try simp only [Act.put, List.setIfInBounds_toArray, List.set_cons_zero, List.set_cons_succ]); first | (go_wp2_with fail; exact ⟨rfl, rfl, Below.refl _ _⟩))
      apply Exists.intro
      refine And.intro ?_ ?_
      · (intro W hW; (try simp only [Act.put, List.setIfInBounds_toArray, List.set_cons_zero, List.set_cons_succ]); first | (obtain ⟨hcW, hfW⟩ := bcell hW; have hsW := hW.size; (try simp at hsW); (try have hsW0 := lt_of_succ_le hsW); (try (have hsW1 := lt_pred hsW; (try (have hsW2 := lt_pred hsW1)))); go_wp2_with (first | (go_at_call 134; refine (c_laws_markText _ _ (by omega) (by omega)).mono ?_; rintro e w9 ⟨rfl, hb9⟩)); exact ⟨rfl, rfl, bel⟩))
      apply Exists.intro
      refine And.intro ?_ ?_
      · (intro W hW; (try simp only [Act.put, List.setIfInBounds_toArray, List.set_cons_zero, List.set_cons_succ]); first | (go_wp2_with fail; exact ⟨rfl, rfl, Below.refl _ _⟩))
      intro w1 hb
      (first | (have hcu2 := Cum.join hcu hb; (try clear hcu); (try clear hc); (try clear hfz); (try clear hsz); (try clear hs0); (try clear hs1); (try clear hs2); (try clear hs3); (try clear hs4); ) | have hcu2 := Cum.mk hb); have hcu := hcu2; clear hcu2; obtain ⟨hc, hfz⟩ := bcell hcu.h; have hsz := hcu.h.size; (try simp at hsz); (try have hs0 := lt_of_succ_le hsz); (try (have hs1 := lt_pred hsz; (try (have hs2 := lt_pred hs1; (try (have hs3 := lt_pred hs2; (try have hs4 := lt_pred hs3)))))))
      (try simp only [Act.put, List.setIfInBounds_toArray, List.set_cons_zero, List.set_cons_succ])
      (try simp only [List.drop_succ_cons, List.drop_nil])
      have hr10 := (hb.cell (p := ⟨b, o + k * 2, none⟩) (by simpa using hbl0)).trans hr00
      have hr11 := (hb.cell (p := ⟨b, o + k * 2 + 1, none⟩) (by simpa using hbl0)).trans hr01
      have hbl1 := Nat.lt_of_lt_of_le hbl0 hb.size
      have Bn1 := Bn0.trans (hb.mono Bn0.size)
      clear hr00 hr01 hbl0 hcu hc hfz hb
      (try clear hsz); (try clear hs0); (try clear hs1); (try clear hs2)
      go_wp2_with fail
      go_roundw
      case rel => exact ⟨k + 1, by omega, by go_num, congrArg (Value.int .i64) (by have := Hy.out; omega), Bn1⟩
      case measure => simp [intOf]; omega
    · obtain rfl : k = l.length := by omega
      clear hA
      go_wp2_with fail
      go_ret
      exact ⟨rfl, bel⟩
end Go.Proofs.YtmhlnbihppojmaaGreat
namespace Go.Proofs.YtmhlnbihppojmaaGreat
open Go.RowKit
set_option maxHeartbeats 2000000 in
theorem c_laws_heldToleranceS (l : List Tolerance) (v : Value) (x : Int) (w : World) (lo : Nat) (hs : Sl_Tolerance lo w.heap.size w l v) (hm : MkTolerances x l) (h1 : 0 < x) (h2 : x + 4 * l.length ≤ 1152921504606846976) :
    Calls Tryz.prog 76 #[v, .int .i64 x] w fun e w' => e = .returned (.int .i64 (x + 4 * l.length)) ∧ Below w.heap.size w w' := by
  obtain ⟨A, c, rfl, hlc, hc, hA⟩ := hs
  have Hm := Lib.hid hm
  clear hm
  go_enter Tryz.func76, Tryz.ntmps76
  go_wp2_with fail
  go_loopw [1, 5] (fun y i wr => ∃ k : Nat, k ≤ l.length ∧ i = .int .i64 k ∧ y = .int .i64 (x + 4 * k) ∧ Below w.heap.size w wr) (fun _ i _ => l.length - (intOf i).toNat)
  case atStart => exact ⟨0, Nat.zero_le _, rfl, by simp, bel⟩
  case round =>
    obtain ⟨k, hk, rfl, rfl, hbr⟩ := hrel
    by_cases hlt : k < l.length
    · obtain ⟨b, o, rfl, -, hb2, hcell⟩ := hA (by omega)
      obtain ⟨d, hd⟩ := exists_at hlt
      obtain ⟨es, -, hcs, hC⟩ := hcell k d hd
      unfold C_Tolerance at hC
      obtain ⟨rfl, -⟩ := hC
      have hdm := Hm.out k d hd
      obtain ⟨y, hy⟩ : ∃ y : Int, y = x + 4 * k := ⟨_, rfl⟩
      have hy0 : 0 < y := by omega
      have hy1 : y + 4 ≤ 1152921504606846976 := by omega
      rw [← hy] at hdm ⊢
      have Hy := Lib.hid hy
      subst hdm
      clear hy
      have hc0 := (hbr.cell (p := ⟨b, o + k * 4 + 0, none⟩) (by simp; omega)).trans (hcs 0 (by omega))
      have hc1 := (hbr.cell (p := ⟨b, o + k * 4 + 1, none⟩) (by simp; omega)).trans (hcs 1 (by omega))
      have hc2 := (hbr.cell (p := ⟨b, o + k * 4 + 2, none⟩) (by simp; omega)).trans (hcs 2 (by omega))
      have hc3 := (hbr.cell (p := ⟨b, o + k * 4 + 3, none⟩) (by simp; omega)).trans (hcs 3 (by omega))
      simp [mkTolerance] at hc0 hc1 hc2 hc3
      have hbl : b < wr.heap.size := Nat.lt_of_lt_of_le hb2 hbr.size
      have hk0 : (0 : Int) ≤ k := by omega
      have hk1 : (k : Int) < l.length := by omega
      clear hcs hcell hA hd
      go_wp2_with fail
      refine wp_region_det 8 (by kernel_rfl) (by kernel_rfl) (by decide) ?_
      apply Exists.intro
      refine And.intro ?_ ?_
      · (intro W hW; (try simp only [Act.put, List.setIfInBounds_toArray, List.set_cons_zero, List.set_cons_succ]); first | (go_wp2_with fail; exact ⟨rfl, rfl, Below.refl _ _⟩))
      apply Exists.intro
      refine And.intro ?_ ?_
      · (intro W hW; (try simp only [Act.put, List.setIfInBounds_toArray, List.set_cons_zero, List.set_cons_succ]); first | (go_wp2_with fail; exact ⟨rfl, rfl, Below.refl _ _⟩))
      apply Exists.intro
      refine And.intro ?_ ?_
      · (intro W hW; (try simp only [Act.put, List.setIfInBounds_toArray, List.set_cons_zero, List.set_cons_succ]); first | (go_wp2_with fail; exact ⟨rfl, rfl, Below.refl _ _⟩))
      apply Exists.intro
      refine And.intro ?_ ?_
      · (intro W hW; (try simp only [Act.put, List.setIfInBounds_toArray, List.set_cons_zero, List.set_cons_succ]); first | (go_wp2_with fail; exact ⟨rfl, rfl, Below.refl _ _⟩))
      apply Exists.intro
      refine And.intro ?_ ?_
      · (intro W hW; (try simp only [Act.put, List.setIfInBounds_toArray, List.set_cons_zero, List.set_cons_succ]); first | (obtain ⟨hcW, hfW⟩ := bcell hW; have hsW := hW.size; (try simp at hsW); (try have hsW0 := lt_of_succ_le hsW); (try (have hsW1 := lt_pred hsW; (try (have hsW2 := lt_pred hsW1)))); go_wp2_with fail; exact ⟨rfl, rfl, Below.refl _ _⟩))
      apply Exists.intro
      refine And.intro ?_ ?_
      · (intro W hW; (try simp only [Act.put, List.setIfInBounds_toArray, List.set_cons_zero, List.set_cons_succ]); first | (go_wp2_with fail; exact ⟨rfl, rfl, Below.refl _ _⟩))
      apply Exists.intro
      refine And.intro ?_ ?_
      · (intro W hW; (try simp only [Act.put, List.setIfInBounds_toArray, List.set_cons_zero, List.set_cons_succ]); first | (obtain ⟨hcW, hfW⟩ := bcell hW; have hsW := hW.size; (try simp at hsW); (try have hsW0 := lt_of_succ_le hsW); (try (have hsW1 := lt_pred hsW; (try (have hsW2 := lt_pred hsW1)))); go_wp2_with (first | (go_at_call 134; refine (c_laws_markText _ _ (by omega) (by omega)).mono ?_; rintro e w9 ⟨rfl, hb9⟩)); exact ⟨rfl, rfl, bel⟩))
      apply Exists.intro
      refine And.intro ?_ ?_
      · (intro W hW; (try simp only [Act.put, List.setIfInBounds_toArray, List.set_cons_zero, List.set_cons_succ]); first | (go_wp2_with fail; exact ⟨rfl, rfl, Below.refl _ _⟩))
      intro w1 hb
      (first | (have hcu2 := Cum.join hcu hb; (try clear hcu); (try clear hc); (try clear hfz); (try clear hsz); (try clear hs0); (try clear hs1); (try clear hs2); (try clear hs3); (try clear hs4); ) | have hcu2 := Cum.mk hb); have hcu := hcu2; clear hcu2; obtain ⟨hc, hfz⟩ := bcell hcu.h; have hsz := hcu.h.size; (try simp at hsz); (try have hs0 := lt_of_succ_le hsz); (try (have hs1 := lt_pred hsz; (try (have hs2 := lt_pred hs1; (try (have hs3 := lt_pred hs2; (try have hs4 := lt_pred hs3)))))))
      (try simp only [Act.put, List.setIfInBounds_toArray, List.set_cons_zero, List.set_cons_succ])
      (try simp only [List.drop_succ_cons, List.drop_nil])
      have hr00 := (hb.cell (p := ⟨b, o + k * 4, none⟩) (by simpa using hbl)).trans hc0
      have hr01 := (hb.cell (p := ⟨b, o + k * 4 + 1, none⟩) (by simpa using hbl)).trans hc1
      have hr02 := (hb.cell (p := ⟨b, o + k * 4 + 2, none⟩) (by simpa using hbl)).trans hc2
      have hr03 := (hb.cell (p := ⟨b, o + k * 4 + 3, none⟩) (by simpa using hbl)).trans hc3
      have hbl0 := Nat.lt_of_lt_of_le hbl hb.size
      have Bn0 := hbr.trans (hb.mono hbr.size)
      clear hc0 hc1 hc2 hc3 hbl hcu hc hfz hb
      (try clear hsz); (try clear hs0); (try clear hs1); (try clear hs2)
      go_wp2_with fail
      refine wp_region_det 8 (by kernel_rfl) (by kernel_rfl) (by decide) ?_
      apply Exists.intro
      refine And.intro ?_ ?_
      · (intro W hW; (try simp only [Act.put, List.setIfInBounds_toArray, List.set_cons_zero, List.set_cons_succ]); first | (go_wp2_with fail; exact ⟨rfl, rfl, Below.refl _ _⟩))
      apply Exists.intro
      refine And.intro ?_ ?_
      · (intro W hW; (try simp only [Act.put, List.setIfInBounds_toArray, List.set_cons_zero, List.set_cons_succ]); first | (go_wp2_with fail; exact ⟨rfl, rfl, Below.refl _ _⟩))
      apply Exists.intro
      refine And.intro ?_ ?_
      · (intro W hW; (try simp only [Act.put, List.setIfInBounds_toArray, List.set_cons_zero, List.set_cons_succ]); first | (go_wp2_with fail; exact ⟨rfl, rfl, Below.refl _ _⟩))
      apply Exists.intro
      refine And.intro ?_ ?_
      · (intro W hW; (try simp only [Act.put, List.setIfInBounds_toArray, List.set_cons_zero, List.set_cons_succ]); first | (go_wp2_with fail; exact ⟨rfl, rfl, Below.refl _ _⟩))
      apply Exists.intro
      refine And.intro ?_ ?_
      · (intro W hW; (try simp only [Act.put, List.setIfInBounds_toArray, List.set_cons_zero, List.set_cons_succ]); first | (obtain ⟨hcW, hfW⟩ := bcell hW; have hsW := hW.size; (try simp at hsW); (try have hsW0 := lt_of_succ_le hsW); (try (have hsW1 := lt_pred hsW; (try (have hsW2 := lt_pred hsW1)))); go_wp2_with fail; exact ⟨rfl, rfl, Below.refl _ _⟩))
      apply Exists.intro
      refine And.intro ?_ ?_
      · (intro W hW; (try simp only [Act.put, List.setIfInBounds_toArray, List.set_cons_zero, List.set_cons_succ]); first | (go_wp2_with fail; exact ⟨rfl, rfl, Below.refl _ _⟩))
      apply Exists.intro
      refine And.intro ?_ ?_
      · (intro W hW; (try simp only [Act.put, List.setIfInBounds_toArray, List.set_cons_zero, List.set_cons_succ]); first | (obtain ⟨hcW, hfW⟩ := bcell hW; have hsW := hW.size; (try simp at hsW); (try have hsW0 := lt_of_succ_le hsW); (try (have hsW1 := lt_pred hsW; (try (have hsW2 := lt_pred hsW1)))); go_wp2_with (first | (go_at_call 134; refine (c_laws_markText _ _ (by omega) (by omega)).mono ?_; rintro e w9 ⟨rfl, hb9⟩)); exact ⟨rfl, rfl, bel⟩))
      apply Exists.intro
      refine And.intro ?_ ?_
      · (intro W hW; (try simp only [Act.put, List.setIfInBounds_toArray, List.set_cons_zero, List.set_cons_succ]); first | (go_wp2_with fail; exact ⟨rfl, rfl, Below.refl _ _⟩))
      intro w1 hb
      (first | (have hcu2 := Cum.join hcu hb; (try clear hcu); (try clear hc); (try clear hfz); (try clear hsz); (try clear hs0); (try clear hs1); (try clear hs2); (try clear hs3); (try clear hs4); ) | have hcu2 := Cum.mk hb); have hcu := hcu2; clear hcu2; obtain ⟨hc, hfz⟩ := bcell hcu.h; have hsz := hcu.h.size; (try simp at hsz); (try have hs0 := lt_of_succ_le hsz); (try (have hs1 := lt_pred hsz; (try (have hs2 := lt_pred hs1; (try (have hs3 := lt_pred hs2; (try have hs4 := lt_pred hs3)))))))
      (try simp only [Act.put, List.setIfInBounds_toArray, List.set_cons_zero, List.set_cons_succ])
      (try simp only [List.drop_succ_cons, List.drop_nil])
      have hr10 := (hb.cell (p := ⟨b, o + k * 4, none⟩) (by simpa using hbl0)).trans hr00
      have hr11 := (hb.cell (p := ⟨b, o + k * 4 + 1, none⟩) (by simpa using hbl0)).trans hr01
      have hr12 := (hb.cell (p := ⟨b, o + k * 4 + 2, none⟩) (by simpa using hbl0)).trans hr02
      have hr13 := (hb.cell (p := ⟨b, o + k * 4 + 3, none⟩) (by simpa using hbl0)).trans hr03
      have hbl1 := Nat.lt_of_lt_of_le hbl0 hb.size
      have Bn1 := Bn0.trans (hb.mono Bn0.size)
      clear hr00 hr01 hr02 hr03 hbl0 hcu hc hfz hb
      (try clear hsz); (try clear hs0); (try clear hs1); (try clear hs2)
      go_wp2_with fail
      go_roundw
      case rel => exact ⟨k + 1, by omega, by go_num, congrArg (Value.int .i64) (by have := Hy.out; omega), Bn1⟩
      case measure => simp [intOf]; omega
    · obtain rfl : k = l.length := by omega
      clear hA
      go_wp2_with fail
      go_ret
      exact ⟨rfl, bel⟩
end Go.Proofs.YtmhlnbihppojmaaGreat
namespace Go.Proofs.YtmhlnbihppojmaaGreat
open Go.RowKit Go.Lib
theorem cnt_lens' {L M : List NeedV} (h : L.map (fun z => z.d.values.length) = M.map (fun z => z.d.values.length)) : cntN (L.map (·.d)) = cntN (M.map (·.d)) := by
  apply cntN_same
  rw [List.map_map, List.map_map]
  exact h
def MkPod (x : Int) (d : Pod) : Prop := MkLabels (x) d.labels ∧ MkNs (x + 2 * d.labels.length) d.needs ∧ MkTolerances (x + 2 * d.labels.length + cntN d.needs) d.tolerances
def cntPod (d : Pod) : Nat := 2 * d.labels.length + cntN d.needs + 4 * d.tolerances.length
set_option maxHeartbeats 2000000 in
set_option maxRecDepth 10000 in
theorem c_laws_toPodO (d : Pod) (cs : List Value) (w : World) (lo : Nat) (h : C_Pod lo w.heap.size w d cs) (hn : nPod d ≤ 1048576) :
    Calls Tryz.prog 17 #[.agg cs.toArray] w fun e w' => ∃ cs', e = .returned (.agg cs'.toArray) ∧ OwnPod (fun b => w.heap.size ≤ b ∧ b < w'.heap.size) w' d cs' ∧ Below w.heap.size w w' := by
  obtain ⟨v1, v5, v6, rfl, a0, a1, a2, a3, a4, a5, a6⟩ := h
  obtain ⟨A1, c1, rfl⟩ := a1.form
  obtain ⟨A5, c5, rfl⟩ := a5.form
  obtain ⟨A6, c6, rfl⟩ := a6.form
  have H1 := Lib.hid a1
  have H5 := Lib.hid a5
  have H6 := Lib.hid a6
  clear a1 a5 a6
  unfold nPod at hn
  have m1 : d.labels.length ≤ 1048576 := by have := nL_def nLabel d.labels; omega
  have m5 : nL nNeed d.needs ≤ 1048576 := by omega
  have m6 : d.tolerances.length ≤ 1048576 := by have := nL_def nTolerance d.tolerances; omega
  clear hn
  go_enter Tryz.func17, Tryz.ntmps17
  go_wp2_with fail
  refine (c_laws_toLabelSO d.labels _ _ _ (Sl_Label.now H1.out bel) m1).mono ?_
  rintro e w1 ⟨X1, x1, rfl, R1, hb⟩
  have z_w1 := hb.size
  (try simp at z_w1)
  have K_w1 := hb
  clear hb
  have SP : w1.heap[w.heap.size]? = some (.cells #[.string d.name, .slice A1 d.labels.length c1, .int .i64 d.cpu, .int .i64 d.mem, .int .i64 d.rank, .slice A5 d.needs.length c5, .slice A6 d.tolerances.length c6] 39 (0, 0)) := (K_w1.block (w.heap.size) (by first | omega | (simp; omega) | (simp; done))).trans (by repeat (first | ((with_reducible refine heap_at ?_); (focus (simp; done))) | (with_reducible apply set7_0) | (with_reducible apply set7_1) | (with_reducible apply set7_2) | (with_reducible apply set7_3) | (with_reducible apply set7_4) | (with_reducible apply set7_5) | (with_reducible apply set7_6) | ((with_reducible refine (Below.heap_setCell _ _ _ _ ?_).trans ?_); focus (first | omega | (simp; omega) | (simp; done))) | ((with_reducible refine (Below.heap_alloc _ _ _ ?_).trans ?_); focus (first | omega | (simp; omega) | (simp; done)))))
  have SQ : w1.heap[w.heap.size + 1]? = some (.cells #[.string ⟨#[]⟩, .slice none 0 0, .int .i64 0, .int .i64 0, .int .i64 0, .slice none 0 0, .slice none 0 0] 44 (0, 0)) := (K_w1.block (w.heap.size + 1) (by first | omega | (simp; omega) | (simp; done))).trans (by repeat (first | ((with_reducible refine heap_at ?_); (focus (simp; done))) | (with_reducible apply set7_0) | (with_reducible apply set7_1) | (with_reducible apply set7_2) | (with_reducible apply set7_3) | (with_reducible apply set7_4) | (with_reducible apply set7_5) | (with_reducible apply set7_6) | ((with_reducible refine (Below.heap_setCell _ _ _ _ ?_).trans ?_); focus (first | omega | (simp; omega) | (simp; done))) | ((with_reducible refine (Below.heap_alloc _ _ _ ?_).trans ?_); focus (first | omega | (simp; omega) | (simp; done)))))
  have SO : w1.heap[w.heap.size + 1 + 1]? = some (.cells #[.string d.name, .slice none 0 0, .int .i64 0, .int .i64 0, .int .i64 0, .slice none 0 0, .slice none 0 0] 44 (0, 0)) := (K_w1.block (w.heap.size + 1 + 1) (by first | omega | (simp; omega) | (simp; done))).trans (by repeat (first | ((with_reducible refine heap_at ?_); (focus (simp; done))) | (with_reducible apply set7_0) | (with_reducible apply set7_1) | (with_reducible apply set7_2) | (with_reducible apply set7_3) | (with_reducible apply set7_4) | (with_reducible apply set7_5) | (with_reducible apply set7_6) | ((with_reducible refine (Below.heap_setCell _ _ _ _ ?_).trans ?_); focus (first | omega | (simp; omega) | (simp; done))) | ((with_reducible refine (Below.heap_alloc _ _ _ ?_).trans ?_); focus (first | omega | (simp; omega) | (simp; done)))))
  obtain ⟨xP0, xP1, xP2, xP3, xP4, xP5, xP6, xPf⟩ := row7x SP
  have lP := row_lt SP
  have mP := Nat.lt_succ_of_lt lP
  have nP := Nat.lt_succ_of_lt mP
  have RP := Lib.hid SP
  clear SP
  obtain ⟨xQ0, xQ1, xQ2, xQ3, xQ4, xQ5, xQ6, xQf⟩ := row7x SQ
  have lQ := row_lt SQ
  have mQ := Nat.lt_succ_of_lt lQ
  have nQ := Nat.lt_succ_of_lt mQ
  have RQ := Lib.hid SQ
  clear SQ
  obtain ⟨xO0, xO1, xO2, xO3, xO4, xO5, xO6, xOf⟩ := row7x SO
  have lO := row_lt SO
  have mO := Nat.lt_succ_of_lt lO
  have nO := Nat.lt_succ_of_lt mO
  have RO := Lib.hid SO
  clear SO
  have V1 := Lib.hid (R1.carry (S' := fun b => w.heap.size + 3 ≤ b ∧ b < w1.heap.size) (fun _ _ => rfl) (fun b hb => ⟨by have := hb.1; (try simp at this); omega, hb.2⟩))
  clear R1
  go_wp2_with fail
  refine (c_laws_toNeedSO d.needs _ _ _ (Sl_Need.now H5.out bel) m5).mono ?_
  rintro e w2 ⟨L5, X5, x5, rfl, hL5, R5, hb⟩
  have z_w2 := hb.size
  (try simp at z_w2)
  have K_w2 := hb
  clear hb
  have SP : w2.heap[w.heap.size]? = some (.cells #[.string d.name, .slice A1 d.labels.length c1, .int .i64 d.cpu, .int .i64 d.mem, .int .i64 d.rank, .slice A5 d.needs.length c5, .slice A6 d.tolerances.length c6] 39 (0, 0)) := (K_w2.block (w.heap.size) (by first | omega | (simp; omega) | (simp; done))).trans (by repeat (first | (exact RP.out) | ((with_reducible refine heap_at ?_); (focus (simp; done))) | (with_reducible apply set7_0) | (with_reducible apply set7_1) | (with_reducible apply set7_2) | (with_reducible apply set7_3) | (with_reducible apply set7_4) | (with_reducible apply set7_5) | (with_reducible apply set7_6) | ((with_reducible refine (Below.heap_setCell _ _ _ _ ?_).trans ?_); focus (first | omega | (simp; omega) | (simp; done))) | ((with_reducible refine (Below.heap_alloc _ _ _ ?_).trans ?_); focus (first | omega | (simp; omega) | (simp; done)))))
  have SQ : w2.heap[w.heap.size + 1]? = some (.cells #[.string ⟨#[]⟩, .slice none 0 0, .int .i64 0, .int .i64 0, .int .i64 0, .slice none 0 0, .slice none 0 0] 44 (0, 0)) := (K_w2.block (w.heap.size + 1) (by first | omega | (simp; omega) | (simp; done))).trans (by repeat (first | (exact RQ.out) | ((with_reducible refine heap_at ?_); (focus (simp; done))) | (with_reducible apply set7_0) | (with_reducible apply set7_1) | (with_reducible apply set7_2) | (with_reducible apply set7_3) | (with_reducible apply set7_4) | (with_reducible apply set7_5) | (with_reducible apply set7_6) | ((with_reducible refine (Below.heap_setCell _ _ _ _ ?_).trans ?_); focus (first | omega | (simp; omega) | (simp; done))) | ((with_reducible refine (Below.heap_alloc _ _ _ ?_).trans ?_); focus (first | omega | (simp; omega) | (simp; done)))))
  have SO : w2.heap[w.heap.size + 1 + 1]? = some (.cells #[.string d.name, .slice X1 d.labels.length x1, .int .i64 d.cpu, .int .i64 d.mem, .int .i64 d.rank, .slice none 0 0, .slice none 0 0] 44 (0, 0)) := (K_w2.block (w.heap.size + 1 + 1) (by first | omega | (simp; omega) | (simp; done))).trans (by repeat (first | (exact RO.out) | ((with_reducible refine heap_at ?_); (focus (simp; done))) | (with_reducible apply set7_0) | (with_reducible apply set7_1) | (with_reducible apply set7_2) | (with_reducible apply set7_3) | (with_reducible apply set7_4) | (with_reducible apply set7_5) | (with_reducible apply set7_6) | ((with_reducible refine (Below.heap_setCell _ _ _ _ ?_).trans ?_); focus (first | omega | (simp; omega) | (simp; done))) | ((with_reducible refine (Below.heap_alloc _ _ _ ?_).trans ?_); focus (first | omega | (simp; omega) | (simp; done)))))
  clear xP0 xP1 xP2 xP3 xP4 xP5 xP6 RP xPf lP mP nP
  clear xQ0 xQ1 xQ2 xQ3 xQ4 xQ5 xQ6 RQ xQf lQ mQ nQ
  clear xO0 xO1 xO2 xO3 xO4 xO5 xO6 RO xOf lO mO nO
  obtain ⟨xP0, xP1, xP2, xP3, xP4, xP5, xP6, xPf⟩ := row7x SP
  have lP := row_lt SP
  have mP := Nat.lt_succ_of_lt lP
  have nP := Nat.lt_succ_of_lt mP
  have RP := Lib.hid SP
  clear SP
  obtain ⟨xQ0, xQ1, xQ2, xQ3, xQ4, xQ5, xQ6, xQf⟩ := row7x SQ
  have lQ := row_lt SQ
  have mQ := Nat.lt_succ_of_lt lQ
  have nQ := Nat.lt_succ_of_lt mQ
  have RQ := Lib.hid SQ
  clear SQ
  obtain ⟨xO0, xO1, xO2, xO3, xO4, xO5, xO6, xOf⟩ := row7x SO
  have lO := row_lt SO
  have mO := Nat.lt_succ_of_lt lO
  have nO := Nat.lt_succ_of_lt mO
  have RO := Lib.hid SO
  clear SO
  have V5 := Lib.hid (show Own_Need (fun b => w1.heap.size ≤ b ∧ b < w2.heap.size) w2 d.needs (.slice X5 d.needs.length x5) from ⟨L5, hL5, R5.carry (fun _ _ => rfl) (fun b hb => ⟨by have := hb.1; (try simp at this); omega, hb.2⟩)⟩)
  clear hL5 R5
  go_wp2_with fail
  refine (c_laws_toToleranceSO d.tolerances _ _ _ (Sl_Tolerance.now H6.out bel) m6).mono ?_
  rintro e w3 ⟨X6, x6, rfl, R6, hb⟩
  have z_w3 := hb.size
  (try simp at z_w3)
  have K_w3 := hb
  clear hb
  have SP : w3.heap[w.heap.size]? = some (.cells #[.string d.name, .slice A1 d.labels.length c1, .int .i64 d.cpu, .int .i64 d.mem, .int .i64 d.rank, .slice A5 d.needs.length c5, .slice A6 d.tolerances.length c6] 39 (0, 0)) := (K_w3.block (w.heap.size) (by first | omega | (simp; omega) | (simp; done))).trans (by repeat (first | (exact RP.out) | ((with_reducible refine heap_at ?_); (focus (simp; done))) | (with_reducible apply set7_0) | (with_reducible apply set7_1) | (with_reducible apply set7_2) | (with_reducible apply set7_3) | (with_reducible apply set7_4) | (with_reducible apply set7_5) | (with_reducible apply set7_6) | ((with_reducible refine (Below.heap_setCell _ _ _ _ ?_).trans ?_); focus (first | omega | (simp; omega) | (simp; done))) | ((with_reducible refine (Below.heap_alloc _ _ _ ?_).trans ?_); focus (first | omega | (simp; omega) | (simp; done)))))
  have SQ : w3.heap[w.heap.size + 1]? = some (.cells #[.string ⟨#[]⟩, .slice none 0 0, .int .i64 0, .int .i64 0, .int .i64 0, .slice none 0 0, .slice none 0 0] 44 (0, 0)) := (K_w3.block (w.heap.size + 1) (by first | omega | (simp; omega) | (simp; done))).trans (by repeat (first | (exact RQ.out) | ((with_reducible refine heap_at ?_); (focus (simp; done))) | (with_reducible apply set7_0) | (with_reducible apply set7_1) | (with_reducible apply set7_2) | (with_reducible apply set7_3) | (with_reducible apply set7_4) | (with_reducible apply set7_5) | (with_reducible apply set7_6) | ((with_reducible refine (Below.heap_setCell _ _ _ _ ?_).trans ?_); focus (first | omega | (simp; omega) | (simp; done))) | ((with_reducible refine (Below.heap_alloc _ _ _ ?_).trans ?_); focus (first | omega | (simp; omega) | (simp; done)))))
  have SO : w3.heap[w.heap.size + 1 + 1]? = some (.cells #[.string d.name, .slice X1 d.labels.length x1, .int .i64 d.cpu, .int .i64 d.mem, .int .i64 d.rank, .slice X5 d.needs.length x5, .slice none 0 0] 44 (0, 0)) := (K_w3.block (w.heap.size + 1 + 1) (by first | omega | (simp; omega) | (simp; done))).trans (by repeat (first | (exact RO.out) | ((with_reducible refine heap_at ?_); (focus (simp; done))) | (with_reducible apply set7_0) | (with_reducible apply set7_1) | (with_reducible apply set7_2) | (with_reducible apply set7_3) | (with_reducible apply set7_4) | (with_reducible apply set7_5) | (with_reducible apply set7_6) | ((with_reducible refine (Below.heap_setCell _ _ _ _ ?_).trans ?_); focus (first | omega | (simp; omega) | (simp; done))) | ((with_reducible refine (Below.heap_alloc _ _ _ ?_).trans ?_); focus (first | omega | (simp; omega) | (simp; done)))))
  clear xP0 xP1 xP2 xP3 xP4 xP5 xP6 RP xPf lP mP nP
  clear xQ0 xQ1 xQ2 xQ3 xQ4 xQ5 xQ6 RQ xQf lQ mQ nQ
  clear xO0 xO1 xO2 xO3 xO4 xO5 xO6 RO xOf lO mO nO
  obtain ⟨xP0, xP1, xP2, xP3, xP4, xP5, xP6, xPf⟩ := row7x SP
  have lP := row_lt SP
  have mP := Nat.lt_succ_of_lt lP
  have nP := Nat.lt_succ_of_lt mP
  have RP := Lib.hid SP
  clear SP
  obtain ⟨xQ0, xQ1, xQ2, xQ3, xQ4, xQ5, xQ6, xQf⟩ := row7x SQ
  have lQ := row_lt SQ
  have mQ := Nat.lt_succ_of_lt lQ
  have nQ := Nat.lt_succ_of_lt mQ
  have RQ := Lib.hid SQ
  clear SQ
  obtain ⟨xO0, xO1, xO2, xO3, xO4, xO5, xO6, xOf⟩ := row7x SO
  have lO := row_lt SO
  have mO := Nat.lt_succ_of_lt lO
  have nO := Nat.lt_succ_of_lt mO
  have RO := Lib.hid SO
  clear SO
  have V6 := Lib.hid (R6.carry (S' := fun b => w2.heap.size ≤ b ∧ b < w3.heap.size) (fun _ _ => rfl) (fun b hb => ⟨by have := hb.1; (try simp at this); omega, hb.2⟩))
  clear R6
  go_wp2_with fail
  refine bodyPost_ret (v := .agg #[.string d.name, .slice X1 d.labels.length x1, .int .i64 d.cpu, .int .i64 d.mem, .int .i64 d.rank, .slice X5 d.needs.length x5, .slice X6 d.tolerances.length x6]) (by simp only [results, Tryz.results17]; go_simp) rfl ?_
  refine ⟨[.string d.name, .slice X1 d.labels.length x1, .int .i64 d.cpu, .int .i64 d.mem, .int .i64 d.rank, .slice X5 d.needs.length x5, .slice X6 d.tolerances.length x6], rfl, ?_, bel⟩
  exact ⟨_, _, _, _, _, _, rfl, a0, V1.out.carry (fun b hb => (by repeat (first | (with_reducible rfl) | ((with_reducible refine (Below.heap_setCell _ _ _ b ?_).trans ?_); focus (simp; omega)) | ((with_reducible refine (Below.heap_alloc _ _ b ?_).trans ?_); focus (simp; omega)) | ((with_reducible refine (Below.block (by assumption) b ?_).trans ?_); focus (simp; omega))))) (fun _ h => h), a2, a3, a4, V5.out.carry (fun b hb => (by repeat (first | (with_reducible rfl) | ((with_reducible refine (Below.heap_setCell _ _ _ b ?_).trans ?_); focus (simp; omega)) | ((with_reducible refine (Below.heap_alloc _ _ b ?_).trans ?_); focus (simp; omega)) | ((with_reducible refine (Below.block (by assumption) b ?_).trans ?_); focus (simp; omega))))) (fun _ h => h), V6.out.carry (fun b hb => (by repeat (first | (with_reducible rfl) | ((with_reducible refine (Below.heap_setCell _ _ _ b ?_).trans ?_); focus (simp; omega)) | ((with_reducible refine (Below.heap_alloc _ _ b ?_).trans ?_); focus (simp; omega)) | ((with_reducible refine (Below.block (by assumption) b ?_).trans ?_); focus (simp; omega))))) (fun _ h => h), fun b hb => ⟨⟨by omega, by first | omega | (simp; done) | (simp; omega)⟩, by omega, by omega⟩, fun b hb => ⟨⟨by omega, by first | omega | (simp; done) | (simp; omega)⟩, by omega⟩, fun b hb => ⟨by omega, by first | omega | (simp; done) | (simp; omega)⟩⟩
set_option maxHeartbeats 2000000 in
set_option maxRecDepth 10000 in
theorem c_laws_markPod (d : Pod) (cs : List Value) (x : Int) (w : World) (S : Nat → Prop) (h : OwnPod S w d cs) (hSb : ∀ b, S b → b < w.heap.size) (h1 : 0 < x) (h2 : x + cntPod d ≤ 1152921504606846976) :
    Calls Tryz.prog 20 #[.agg cs.toArray, .int .i64 x] w fun e w' => ∃ d', e = .returned (.int .i64 (x + cntPod d)) ∧ cntPod d' = cntPod d ∧ OwnPod S w' d' cs ∧ MkPod x d' ∧ Aside S w w' := by
  obtain ⟨v1, v5, v6, S1, S5, S6, rfl, a0, a1, a2, a3, a4, a5, a6, s1, s5, s6⟩ := h
  have b1 := a1
  obtain ⟨N5, e5, b5⟩ := a5
  have b6 := a6
  unfold cntPod at h2
  have Hx := Lib.hid h2
  obtain ⟨A1, c1, rfl⟩ := b1.form
  have H1 := Lib.hid b1
  obtain ⟨A5, c5, rfl⟩ : ∃ A c, v5 = .slice A d.needs.length c := by obtain ⟨A, c, rfl⟩ := b5.1.form; exact ⟨A, c, by rw [← e5, List.length_map]⟩
  have H5 := Lib.hid b5
  have E5 := Lib.hid e5
  obtain ⟨A6, c6, rfl⟩ := b6.form
  have H6 := Lib.hid b6
  clear h2 b1 a1 b5 e5 b6 a6
  obtain ⟨y1, hy1⟩ : ∃ y : Int, y = x + 2 * d.labels.length := ⟨_, rfl⟩
  have HY1 := Lib.hid hy1
  obtain ⟨y2, hy2⟩ : ∃ y : Int, y = y1 + cntN d.needs := ⟨_, rfl⟩
  have HY2 := Lib.hid hy2
  have hp1 : 0 < y1 := by omega
  have hp2 : 0 < y2 := by omega
  clear hy1 hy2
  go_enter Tryz.func20, Tryz.ntmps20
  go_wp2_with fail
  refine (c_laws_markLabelS d.labels _ _ _ _ (H1.out.carry (fun b hb => (Below.heap_alloc _ _ b (by have := hSb b (s1 b hb).1; first | omega | (simp; omega)))) (fun _ h => h)) (fun b hb => (by have := hSb b (s1 b hb).1; first | omega | (simp; omega))) h1 (by have := Hx.out; omega)).mono ?_
  rintro e w1 ⟨m1, rfl, l1, O1, M1, hb⟩
  rw [← HY1.out]
  have z_w1 := hb.size
  (try simp at z_w1)
  have K_w1 := hb
  clear hb
  have SP : w1.heap[w.heap.size]? = some (.cells #[.string d.name, .slice A1 d.labels.length c1, .int .i64 d.cpu, .int .i64 d.mem, .int .i64 d.rank, .slice A5 d.needs.length c5, .slice A6 d.tolerances.length c6] 44 (0, 0)) := (K_w1.block (w.heap.size) (by first | omega | (simp; done) | (simp; omega)) (fun hq => by have := hSb _ (s1 _ hq).1; omega)).trans (by repeat (first | ((with_reducible refine heap_at ?_); (focus (simp; done))) | (with_reducible apply set7_0) | (with_reducible apply set7_1) | (with_reducible apply set7_2) | (with_reducible apply set7_3) | (with_reducible apply set7_4) | (with_reducible apply set7_5) | (with_reducible apply set7_6) | ((with_reducible refine (Below.heap_setCell _ _ _ _ ?_).trans ?_); focus (first | omega | (simp; omega) | (simp; done))) | ((with_reducible refine (Below.heap_alloc _ _ _ ?_).trans ?_); focus (first | omega | (simp; omega) | (simp; done)))))
  obtain ⟨xP0, xP1, xP2, xP3, xP4, xP5, xP6, xPf⟩ := row7x SP
  have lP := row_lt SP
  have mP := Nat.lt_succ_of_lt lP
  have nP := Nat.lt_succ_of_lt mP
  have RP := Lib.hid SP
  clear SP
  have HO1 := Lib.hid O1
  have HM1 := Lib.hid M1
  have HL1 := Lib.hid l1
  clear O1 M1 l1
  go_wp2_with fail
  refine (c_laws_markNeedS N5 _ _ _ _ (H5.out.carry (fun b hb => ((K_w1.block b (by have := hSb b (s5 b hb).1; first | omega | (simp; omega)) (fun hq => (s1 b hq).2.1 hb)).trans (Below.heap_alloc _ _ b (by have := hSb b (s5 b hb).1; first | omega | (simp; omega))))) (fun _ h => h)) (fun b hb => (by have := hSb b (s5 b hb).1; first | omega | (simp; omega))) hp1 (by have := Hx.out; have := HY1.out; rw [E5.out]; omega)).mono ?_
  rintro e w2 ⟨m5, rfl, l5, O5, M5, hb⟩
  rw [E5.out]
  rw [← HY2.out]
  have z_w2 := hb.size
  (try simp at z_w2)
  have K_w2 := hb
  clear hb
  have SP : w2.heap[w.heap.size]? = some (.cells #[.string d.name, .slice A1 d.labels.length c1, .int .i64 d.cpu, .int .i64 d.mem, .int .i64 d.rank, .slice A5 d.needs.length c5, .slice A6 d.tolerances.length c6] 44 (0, 0)) := (K_w2.block (w.heap.size) (by first | omega | (simp; done) | (simp; omega)) (fun hq => by have := hSb _ (s5 _ hq).1; omega)).trans (by repeat (first | (exact RP.out) | ((with_reducible refine heap_at ?_); (focus (simp; done))) | (with_reducible apply set7_0) | (with_reducible apply set7_1) | (with_reducible apply set7_2) | (with_reducible apply set7_3) | (with_reducible apply set7_4) | (with_reducible apply set7_5) | (with_reducible apply set7_6) | ((with_reducible refine (Below.heap_setCell _ _ _ _ ?_).trans ?_); focus (first | omega | (simp; omega) | (simp; done))) | ((with_reducible refine (Below.heap_alloc _ _ _ ?_).trans ?_); focus (first | omega | (simp; omega) | (simp; done)))))
  clear xP0 xP1 xP2 xP3 xP4 xP5 xP6 RP xPf lP mP nP
  obtain ⟨xP0, xP1, xP2, xP3, xP4, xP5, xP6, xPf⟩ := row7x SP
  have lP := row_lt SP
  have mP := Nat.lt_succ_of_lt lP
  have nP := Nat.lt_succ_of_lt mP
  have RP := Lib.hid SP
  clear SP
  have HO5 := Lib.hid O5
  have HM5 := Lib.hid M5
  have HL5 := Lib.hid l5
  clear O5 M5 l5
  go_wp2_with fail
  refine (c_laws_markToleranceS d.tolerances _ _ _ _ (H6.out.carry (fun b hb => ((K_w2.block b (by have := hSb b (s6 b hb); first | omega | (simp; omega)) (fun hq => (s5 b hq).2 hb)).trans ((K_w1.block b (by have := hSb b (s6 b hb); first | omega | (simp; omega)) (fun hq => (s1 b hq).2.2 hb)).trans (Below.heap_alloc _ _ b (by have := hSb b (s6 b hb); first | omega | (simp; omega)))))) (fun _ h => h)) (fun b hb => (by have := hSb b (s6 b hb); first | omega | (simp; omega))) hp2 (by have := Hx.out; have := HY1.out; have := HY2.out; omega)).mono ?_
  rintro e w3 ⟨m6, rfl, l6, O6, M6, hb⟩
  have z_w3 := hb.size
  (try simp at z_w3)
  have K_w3 := hb
  clear hb
  have SP : w3.heap[w.heap.size]? = some (.cells #[.string d.name, .slice A1 d.labels.length c1, .int .i64 d.cpu, .int .i64 d.mem, .int .i64 d.rank, .slice A5 d.needs.length c5, .slice A6 d.tolerances.length c6] 44 (0, 0)) := (K_w3.block (w.heap.size) (by first | omega | (simp; done) | (simp; omega)) (fun hq => by have := hSb _ (s6 _ hq); omega)).trans (by repeat (first | (exact RP.out) | ((with_reducible refine heap_at ?_); (focus (simp; done))) | (with_reducible apply set7_0) | (with_reducible apply set7_1) | (with_reducible apply set7_2) | (with_reducible apply set7_3) | (with_reducible apply set7_4) | (with_reducible apply set7_5) | (with_reducible apply set7_6) | ((with_reducible refine (Below.heap_setCell _ _ _ _ ?_).trans ?_); focus (first | omega | (simp; omega) | (simp; done))) | ((with_reducible refine (Below.heap_alloc _ _ _ ?_).trans ?_); focus (first | omega | (simp; omega) | (simp; done)))))
  clear xP0 xP1 xP2 xP3 xP4 xP5 xP6 RP xPf lP mP nP
  obtain ⟨xP0, xP1, xP2, xP3, xP4, xP5, xP6, xPf⟩ := row7x SP
  have lP := row_lt SP
  have mP := Nat.lt_succ_of_lt lP
  have nP := Nat.lt_succ_of_lt mP
  have RP := Lib.hid SP
  clear SP
  have HO6 := Lib.hid O6
  have HM6 := Lib.hid M6
  have HL6 := Lib.hid l6
  clear O6 M6 l6
  go_wp2_with fail
  go_ret
  have hl1 : m1.length = d.labels.length := HL1.out
  have hl5 : cntN (m5.map (·.d)) = cntN d.needs := by rw [← E5.out]; exact cnt_lens' HL5.out
  have hl6 : m6.length = d.tolerances.length := HL6.out
  have hM5 : MkNs (x + 2 * (⟨d.name, m1, d.cpu, d.mem, d.rank, m5.map (·.d), m6⟩ : Pod).labels.length) (m5.map (·.d)) := by
    have h9 := HM5.out
    have h8 : y1 = x + 2 * (⟨d.name, m1, d.cpu, d.mem, d.rank, m5.map (·.d), m6⟩ : Pod).labels.length := by have := HY1.out; simp only []; have := hl1; omega
    rw [h8] at h9
    exact h9
  have hM6 : MkTolerances (x + 2 * (⟨d.name, m1, d.cpu, d.mem, d.rank, m5.map (·.d), m6⟩ : Pod).labels.length + cntN (⟨d.name, m1, d.cpu, d.mem, d.rank, m5.map (·.d), m6⟩ : Pod).needs) m6 := by
    have h9 := HM6.out
    have h8 : y2 = x + 2 * (⟨d.name, m1, d.cpu, d.mem, d.rank, m5.map (·.d), m6⟩ : Pod).labels.length + cntN (⟨d.name, m1, d.cpu, d.mem, d.rank, m5.map (·.d), m6⟩ : Pod).needs := by have := HY1.out; have := HY2.out; simp only []; have := hl1; have := hl5; omega
    rw [h8] at h9
    exact h9
  have hfin : y2 + 4 * d.tolerances.length = x + cntPod d := by unfold cntPod; have := HY1.out; have := HY2.out; omega
  exact ⟨⟨d.name, m1, d.cpu, d.mem, d.rank, m5.map (·.d), m6⟩, ret_int hfin, by unfold cntPod; simp only []; omega, ⟨_, _, _, S1, S5, S6, rfl, a0, (HO1.out.carry (fun b hb => ((K_w3.block b (by have := hSb b (s1 b hb).1; first | omega | (simp; omega)) (fun hq => (s1 b hb).2.2 hq)).trans (K_w2.block b (by have := hSb b (s1 b hb).1; first | omega | (simp; omega)) (fun hq => (s1 b hb).2.1 hq)))) (fun _ h => h)), a2, a3, a4, ((show Own_Need S5 w2 (m5.map (·.d)) _ from ⟨_, rfl, HO5.out⟩).carry (fun b hb => (K_w3.block b (by have := hSb b (s5 b hb).1; first | omega | (simp; omega)) (fun hq => (s5 b hb).2 hq))) (fun _ h => h)), HO6.out, s1, s5, s6⟩, ⟨HM1.out, hM5, hM6⟩, ((((aside_alloc (Aside.refl S w)).trans (K_w1.mono (fun b hb => (s1 b hb).1))).trans (K_w2.mono (fun b hb => (s5 b hb).1))).trans (K_w3.mono (fun b hb => (s6 b hb))))⟩
set_option maxHeartbeats 2000000 in
set_option maxRecDepth 10000 in
theorem c_laws_heldPod (d : Pod) (cs : List Value) (x : Int) (w : World) (lo : Nat) (h : C_Pod lo w.heap.size w d cs) (hm : MkPod x d) (h1 : 0 < x) (h2 : x + cntPod d ≤ 1152921504606846976) :
    Calls Tryz.prog 21 #[.agg cs.toArray, .int .i64 x] w fun e w' => e = .returned (.int .i64 (x + cntPod d)) ∧ Below w.heap.size w w' := by
  obtain ⟨v1, v5, v6, rfl, a0, a1, a2, a3, a4, a5, a6⟩ := h
  obtain ⟨mm1, mm5, mm6⟩ := hm
  obtain ⟨A1, c1, rfl⟩ := a1.form
  obtain ⟨A5, c5, rfl⟩ := a5.form
  obtain ⟨A6, c6, rfl⟩ := a6.form
  have H1 := Lib.hid a1
  have HM1 := Lib.hid mm1
  have H5 := Lib.hid a5
  have HM5 := Lib.hid mm5
  have H6 := Lib.hid a6
  have HM6 := Lib.hid mm6
  unfold cntPod at h2
  have Hx := Lib.hid h2
  clear h2 a1 mm1 a5 mm5 a6 mm6
  obtain ⟨y1, hy1⟩ : ∃ y : Int, y = x + 2 * d.labels.length := ⟨_, rfl⟩
  have HY1 := Lib.hid hy1
  obtain ⟨y2, hy2⟩ : ∃ y : Int, y = y1 + cntN d.needs := ⟨_, rfl⟩
  have HY2 := Lib.hid hy2
  have hp1 : 0 < y1 := by omega
  have hq1 : ¬ y1 < 0 := by omega
  have hp2 : 0 < y2 := by omega
  have hq2 : ¬ y2 < 0 := by omega
  obtain ⟨y3, hy3⟩ : ∃ y : Int, y = y2 + 4 * d.tolerances.length := ⟨_, rfl⟩
  have HY3 := Lib.hid hy3
  have hq3 : ¬ y3 < 0 := by omega
  clear hy1 hy2 hy3
  go_enter Tryz.func21, Tryz.ntmps21
  go_wp2_with fail
  refine (c_laws_heldLabelS d.labels _ _ _ _ (Sl_Label.now H1.out bel) HM1.out h1 (by have := Hx.out; omega)).mono ?_
  rintro e w1 ⟨rfl, hb⟩
  rw [← HY1.out]
  have z_w1 := hb.size
  (try simp at z_w1)
  have K_w1 := hb
  clear hb
  have SP : w1.heap[w.heap.size]? = some (.cells #[.string d.name, .slice A1 d.labels.length c1, .int .i64 d.cpu, .int .i64 d.mem, .int .i64 d.rank, .slice A5 d.needs.length c5, .slice A6 d.tolerances.length c6] 44 (0, 0)) := (K_w1.block (w.heap.size) (by first | omega | (simp; omega) | (simp; done))).trans (by repeat (first | ((with_reducible refine heap_at ?_); (focus (simp; done))) | (with_reducible apply set7_0) | (with_reducible apply set7_1) | (with_reducible apply set7_2) | (with_reducible apply set7_3) | (with_reducible apply set7_4) | (with_reducible apply set7_5) | (with_reducible apply set7_6) | ((with_reducible refine (Below.heap_setCell _ _ _ _ ?_).trans ?_); focus (first | omega | (simp; omega) | (simp; done))) | ((with_reducible refine (Below.heap_alloc _ _ _ ?_).trans ?_); focus (first | omega | (simp; omega) | (simp; done)))))
  obtain ⟨xP0, xP1, xP2, xP3, xP4, xP5, xP6, xPf⟩ := row7x SP
  have lP := row_lt SP
  have mP := Nat.lt_succ_of_lt lP
  have nP := Nat.lt_succ_of_lt mP
  have RP := Lib.hid SP
  clear SP
  go_wp2_with fail
  refine (c_laws_heldNeedS d.needs _ _ _ _ (Sl_Need.now H5.out bel) (by have h9 := HM5.out; rw [show x + 2 * d.labels.length = y1 from by have := HY1.out; omega] at h9; exact h9) hp1 (by have := Hx.out; have := HY1.out; omega)).mono ?_
  rintro e w2 ⟨rfl, hb⟩
  rw [← HY2.out]
  have z_w2 := hb.size
  (try simp at z_w2)
  have K_w2 := hb
  clear hb
  have SP : w2.heap[w.heap.size]? = some (.cells #[.string d.name, .slice A1 d.labels.length c1, .int .i64 d.cpu, .int .i64 d.mem, .int .i64 d.rank, .slice A5 d.needs.length c5, .slice A6 d.tolerances.length c6] 44 (0, 0)) := (K_w2.block (w.heap.size) (by first | omega | (simp; omega) | (simp; done))).trans (by repeat (first | (exact RP.out) | ((with_reducible refine heap_at ?_); (focus (simp; done))) | (with_reducible apply set7_0) | (with_reducible apply set7_1) | (with_reducible apply set7_2) | (with_reducible apply set7_3) | (with_reducible apply set7_4) | (with_reducible apply set7_5) | (with_reducible apply set7_6) | ((with_reducible refine (Below.heap_setCell _ _ _ _ ?_).trans ?_); focus (first | omega | (simp; omega) | (simp; done))) | ((with_reducible refine (Below.heap_alloc _ _ _ ?_).trans ?_); focus (first | omega | (simp; omega) | (simp; done)))))
  clear xP0 xP1 xP2 xP3 xP4 xP5 xP6 RP xPf lP mP nP
  obtain ⟨xP0, xP1, xP2, xP3, xP4, xP5, xP6, xPf⟩ := row7x SP
  have lP := row_lt SP
  have mP := Nat.lt_succ_of_lt lP
  have nP := Nat.lt_succ_of_lt mP
  have RP := Lib.hid SP
  clear SP
  go_wp2_with fail
  refine (c_laws_heldToleranceS d.tolerances _ _ _ _ (Sl_Tolerance.now H6.out bel) (by have h9 := HM6.out; rw [show x + 2 * d.labels.length + cntN d.needs = y2 from by have := HY1.out; have := HY2.out; omega] at h9; exact h9) hp2 (by have := Hx.out; have := HY1.out; have := HY2.out; omega)).mono ?_
  rintro e w3 ⟨rfl, hb⟩
  rw [← HY3.out]
  have z_w3 := hb.size
  (try simp at z_w3)
  have K_w3 := hb
  clear hb
  have SP : w3.heap[w.heap.size]? = some (.cells #[.string d.name, .slice A1 d.labels.length c1, .int .i64 d.cpu, .int .i64 d.mem, .int .i64 d.rank, .slice A5 d.needs.length c5, .slice A6 d.tolerances.length c6] 44 (0, 0)) := (K_w3.block (w.heap.size) (by first | omega | (simp; omega) | (simp; done))).trans (by repeat (first | (exact RP.out) | ((with_reducible refine heap_at ?_); (focus (simp; done))) | (with_reducible apply set7_0) | (with_reducible apply set7_1) | (with_reducible apply set7_2) | (with_reducible apply set7_3) | (with_reducible apply set7_4) | (with_reducible apply set7_5) | (with_reducible apply set7_6) | ((with_reducible refine (Below.heap_setCell _ _ _ _ ?_).trans ?_); focus (first | omega | (simp; omega) | (simp; done))) | ((with_reducible refine (Below.heap_alloc _ _ _ ?_).trans ?_); focus (first | omega | (simp; omega) | (simp; done)))))
  clear xP0 xP1 xP2 xP3 xP4 xP5 xP6 RP xPf lP mP nP
  obtain ⟨xP0, xP1, xP2, xP3, xP4, xP5, xP6, xPf⟩ := row7x SP
  have lP := row_lt SP
  have mP := Nat.lt_succ_of_lt lP
  have nP := Nat.lt_succ_of_lt mP
  have RP := Lib.hid SP
  clear SP
  go_wp2_with fail
  go_ret
  exact ⟨ret_int (by unfold cntPod; have := HY1.out; have := HY2.out; have := HY3.out; omega), bel⟩
end Go.Proofs.YtmhlnbihppojmaaGreat
