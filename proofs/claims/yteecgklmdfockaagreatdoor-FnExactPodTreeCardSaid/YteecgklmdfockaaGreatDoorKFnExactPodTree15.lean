/- Written by wip/tools/pack.py: the texts that FnExactPodTree needs, without what it does not need. No conditions. -/
import Derived.Test.YteecgklmdfockaaGreatDoorKFnExactPodTree1
import Derived.Test.YteecgklmdfockaaGreatDoorKFnExactPodTree14
import Derived.Test.YteecgklmdfockaaGreatDoorKFnExactPodTree4
namespace Go.Proofs.YteecgklmdfockaaGreatDoor
open Go.RowKit
def nPod (d : Pod) : Nat := d.name.size + nL nLabel d.labels + nL nNeed d.needs + nL nTolerance d.tolerances
theorem C_Pod.open {lo hi : Nat} {w : World} {d : Pod} {cs : List Value} (h : C_Pod lo hi w d cs) : ∃ A1 c1 A5 c5 A6 c6, cs = [.string d.name, .slice A1 d.labels.length c1, .int .i64 d.cpu, .int .i64 d.mem, .int .i64 d.rank, .slice A5 d.needs.length c5, .slice A6 d.tolerances.length c6] := by
  obtain ⟨v1, v5, v6, rfl, a0, a1, a2, a3, a4, a5, a6⟩ := h
  obtain ⟨A1, c1, rfl⟩ := a1.form
  obtain ⟨A5, c5, rfl⟩ := a5.form
  obtain ⟨A6, c6, rfl⟩ := a6.form
  exact ⟨A1, c1, A5, c5, A6, c6, rfl⟩
theorem c_laws_szPod (d : Pod) (cs : List Value) (left : Int) (w : World) (lo : Nat) (h : C_Pod lo w.heap.size w d cs) (h3 : 0 ≤ left) (h4 : left ≤ 1048576) :
    Calls Tryz.prog 14 #[.agg cs.toArray, .int .i64 left] w fun e w' => e = .returned (.int .i64 (szI left (nPod d))) ∧ Below w.heap.size w w' := by
  obtain ⟨v1, v5, v6, rfl, a0, a1, a2, a3, a4, a5, a6⟩ := h
  obtain ⟨A1, c1, rfl⟩ := a1.form
  obtain ⟨A5, c5, rfl⟩ := a5.form
  obtain ⟨A6, c6, rfl⟩ := a6.form
  unfold I64 at a2
  unfold I64 at a3
  unfold I64 at a4
  by_cases g_name : left - (d.name.size : Nat) < 0
  · have Hf := Lib.hid (show szI left (nPod d) = -1 by unfold nPod szI; rw [if_neg (by omega)])
    go_enter Tryz.func14, Tryz.ntmps14
    go_wp2_with (first | (go_at_call 20; refine (c_laws_szLabelS _ _ _ _ _ (Sl_Label.now (by assumption) bel) (by omega) (by omega)).mono ?_; rintro e w1 ⟨rfl, hb⟩; (first | (have hcu2 := Cum.join hcu hb; (try clear hcu); (try clear hc); (try clear hfz); (try clear hsz); (try clear hs0); (try clear hs1); (try clear hs2); (try clear hs3); (try clear hs4); ) | have hcu2 := Cum.mk hb); have hcu := hcu2; clear hcu2; obtain ⟨hc, hfz⟩ := bcell hcu.h; have hsz := hcu.h.size; (try simp at hsz); (try have hs0 := lt_of_succ_le hsz); (try (have hs1 := lt_pred hsz; (try (have hs2 := lt_pred hs1; (try (have hs3 := lt_pred hs2; (try have hs4 := lt_pred hs3)))))))) | (go_at_call 46; refine (c_laws_szNeedS _ _ _ _ _ (Sl_Need.now (by assumption) bel) (by omega) (by omega)).mono ?_; rintro e w1 ⟨rfl, hb⟩; (first | (have hcu2 := Cum.join hcu hb; (try clear hcu); (try clear hc); (try clear hfz); (try clear hsz); (try clear hs0); (try clear hs1); (try clear hs2); (try clear hs3); (try clear hs4); ) | have hcu2 := Cum.mk hb); have hcu := hcu2; clear hcu2; obtain ⟨hc, hfz⟩ := bcell hcu.h; have hsz := hcu.h.size; (try simp at hsz); (try have hs0 := lt_of_succ_le hsz); (try (have hs1 := lt_pred hsz; (try (have hs2 := lt_pred hs1; (try (have hs3 := lt_pred hs2; (try have hs4 := lt_pred hs3)))))))) | (go_at_call 47; refine (c_laws_szToleranceS _ _ _ _ _ (Sl_Tolerance.now (by assumption) bel) (by omega) (by omega)).mono ?_; rintro e w1 ⟨rfl, hb⟩; (first | (have hcu2 := Cum.join hcu hb; (try clear hcu); (try clear hc); (try clear hfz); (try clear hsz); (try clear hs0); (try clear hs1); (try clear hs2); (try clear hs3); (try clear hs4); ) | have hcu2 := Cum.mk hb); have hcu := hcu2; clear hcu2; obtain ⟨hc, hfz⟩ := bcell hcu.h; have hsz := hcu.h.size; (try simp at hsz); (try have hs0 := lt_of_succ_le hsz); (try (have hs1 := lt_pred hsz; (try (have hs2 := lt_pred hs1; (try (have hs3 := lt_pred hs2; (try have hs4 := lt_pred hs3)))))))))
    go_ret
    exact ⟨ret_int Hf.out.symm, bel⟩
  by_cases g_labels : left - (d.name.size : Nat) - (nL nLabel d.labels : Nat) < 0
  · have Hf := Lib.hid (show szI left (nPod d) = -1 by unfold nPod szI; rw [if_neg (by omega)])
    have z_labels : szI (left - (d.name.size : Nat)) (nL nLabel d.labels) = -1 := szI_neg (by omega)
    go_enter Tryz.func14, Tryz.ntmps14
    go_wp2_with (first | (go_at_call 20; refine (c_laws_szLabelS _ _ _ _ _ (Sl_Label.now (by assumption) bel) (by omega) (by omega)).mono ?_; rintro e w1 ⟨rfl, hb⟩; (first | (have hcu2 := Cum.join hcu hb; (try clear hcu); (try clear hc); (try clear hfz); (try clear hsz); (try clear hs0); (try clear hs1); (try clear hs2); (try clear hs3); (try clear hs4); ) | have hcu2 := Cum.mk hb); have hcu := hcu2; clear hcu2; obtain ⟨hc, hfz⟩ := bcell hcu.h; have hsz := hcu.h.size; (try simp at hsz); (try have hs0 := lt_of_succ_le hsz); (try (have hs1 := lt_pred hsz; (try (have hs2 := lt_pred hs1; (try (have hs3 := lt_pred hs2; (try have hs4 := lt_pred hs3)))))))) | (go_at_call 46; refine (c_laws_szNeedS _ _ _ _ _ (Sl_Need.now (by assumption) bel) (by omega) (by omega)).mono ?_; rintro e w1 ⟨rfl, hb⟩; (first | (have hcu2 := Cum.join hcu hb; (try clear hcu); (try clear hc); (try clear hfz); (try clear hsz); (try clear hs0); (try clear hs1); (try clear hs2); (try clear hs3); (try clear hs4); ) | have hcu2 := Cum.mk hb); have hcu := hcu2; clear hcu2; obtain ⟨hc, hfz⟩ := bcell hcu.h; have hsz := hcu.h.size; (try simp at hsz); (try have hs0 := lt_of_succ_le hsz); (try (have hs1 := lt_pred hsz; (try (have hs2 := lt_pred hs1; (try (have hs3 := lt_pred hs2; (try have hs4 := lt_pred hs3)))))))) | (go_at_call 47; refine (c_laws_szToleranceS _ _ _ _ _ (Sl_Tolerance.now (by assumption) bel) (by omega) (by omega)).mono ?_; rintro e w1 ⟨rfl, hb⟩; (first | (have hcu2 := Cum.join hcu hb; (try clear hcu); (try clear hc); (try clear hfz); (try clear hsz); (try clear hs0); (try clear hs1); (try clear hs2); (try clear hs3); (try clear hs4); ) | have hcu2 := Cum.mk hb); have hcu := hcu2; clear hcu2; obtain ⟨hc, hfz⟩ := bcell hcu.h; have hsz := hcu.h.size; (try simp at hsz); (try have hs0 := lt_of_succ_le hsz); (try (have hs1 := lt_pred hsz; (try (have hs2 := lt_pred hs1; (try (have hs3 := lt_pred hs2; (try have hs4 := lt_pred hs3)))))))))
    go_ret
    exact ⟨ret_int Hf.out.symm, bel⟩
  have z_labels : szI (left - (d.name.size : Nat)) (nL nLabel d.labels) = left - (d.name.size : Nat) - (nL nLabel d.labels : Nat) := szI_pos (by omega)
  by_cases g_needs : left - (d.name.size : Nat) - (nL nLabel d.labels : Nat) - (nL nNeed d.needs : Nat) < 0
  · have Hf := Lib.hid (show szI left (nPod d) = -1 by unfold nPod szI; rw [if_neg (by omega)])
    have z_needs : szI (left - (d.name.size : Nat) - (nL nLabel d.labels : Nat)) (nL nNeed d.needs) = -1 := szI_neg (by omega)
    go_enter Tryz.func14, Tryz.ntmps14
    go_wp2_with (first | (go_at_call 20; refine (c_laws_szLabelS _ _ _ _ _ (Sl_Label.now (by assumption) bel) (by omega) (by omega)).mono ?_; rintro e w1 ⟨rfl, hb⟩; (first | (have hcu2 := Cum.join hcu hb; (try clear hcu); (try clear hc); (try clear hfz); (try clear hsz); (try clear hs0); (try clear hs1); (try clear hs2); (try clear hs3); (try clear hs4); ) | have hcu2 := Cum.mk hb); have hcu := hcu2; clear hcu2; obtain ⟨hc, hfz⟩ := bcell hcu.h; have hsz := hcu.h.size; (try simp at hsz); (try have hs0 := lt_of_succ_le hsz); (try (have hs1 := lt_pred hsz; (try (have hs2 := lt_pred hs1; (try (have hs3 := lt_pred hs2; (try have hs4 := lt_pred hs3)))))))) | (go_at_call 46; refine (c_laws_szNeedS _ _ _ _ _ (Sl_Need.now (by assumption) bel) (by omega) (by omega)).mono ?_; rintro e w1 ⟨rfl, hb⟩; (first | (have hcu2 := Cum.join hcu hb; (try clear hcu); (try clear hc); (try clear hfz); (try clear hsz); (try clear hs0); (try clear hs1); (try clear hs2); (try clear hs3); (try clear hs4); ) | have hcu2 := Cum.mk hb); have hcu := hcu2; clear hcu2; obtain ⟨hc, hfz⟩ := bcell hcu.h; have hsz := hcu.h.size; (try simp at hsz); (try have hs0 := lt_of_succ_le hsz); (try (have hs1 := lt_pred hsz; (try (have hs2 := lt_pred hs1; (try (have hs3 := lt_pred hs2; (try have hs4 := lt_pred hs3)))))))) | (go_at_call 47; refine (c_laws_szToleranceS _ _ _ _ _ (Sl_Tolerance.now (by assumption) bel) (by omega) (by omega)).mono ?_; rintro e w1 ⟨rfl, hb⟩; (first | (have hcu2 := Cum.join hcu hb; (try clear hcu); (try clear hc); (try clear hfz); (try clear hsz); (try clear hs0); (try clear hs1); (try clear hs2); (try clear hs3); (try clear hs4); ) | have hcu2 := Cum.mk hb); have hcu := hcu2; clear hcu2; obtain ⟨hc, hfz⟩ := bcell hcu.h; have hsz := hcu.h.size; (try simp at hsz); (try have hs0 := lt_of_succ_le hsz); (try (have hs1 := lt_pred hsz; (try (have hs2 := lt_pred hs1; (try (have hs3 := lt_pred hs2; (try have hs4 := lt_pred hs3)))))))))
    go_ret
    exact ⟨ret_int Hf.out.symm, bel⟩
  have z_needs : szI (left - (d.name.size : Nat) - (nL nLabel d.labels : Nat)) (nL nNeed d.needs) = left - (d.name.size : Nat) - (nL nLabel d.labels : Nat) - (nL nNeed d.needs : Nat) := szI_pos (by omega)
  by_cases g_tolerances : left - (d.name.size : Nat) - (nL nLabel d.labels : Nat) - (nL nNeed d.needs : Nat) - (nL nTolerance d.tolerances : Nat) < 0
  · have Hf := Lib.hid (show szI left (nPod d) = -1 by unfold nPod szI; rw [if_neg (by omega)])
    have z_tolerances : szI (left - (d.name.size : Nat) - (nL nLabel d.labels : Nat) - (nL nNeed d.needs : Nat)) (nL nTolerance d.tolerances) = -1 := szI_neg (by omega)
    go_enter Tryz.func14, Tryz.ntmps14
    go_wp2_with (first | (go_at_call 20; refine (c_laws_szLabelS _ _ _ _ _ (Sl_Label.now (by assumption) bel) (by omega) (by omega)).mono ?_; rintro e w1 ⟨rfl, hb⟩; (first | (have hcu2 := Cum.join hcu hb; (try clear hcu); (try clear hc); (try clear hfz); (try clear hsz); (try clear hs0); (try clear hs1); (try clear hs2); (try clear hs3); (try clear hs4); ) | have hcu2 := Cum.mk hb); have hcu := hcu2; clear hcu2; obtain ⟨hc, hfz⟩ := bcell hcu.h; have hsz := hcu.h.size; (try simp at hsz); (try have hs0 := lt_of_succ_le hsz); (try (have hs1 := lt_pred hsz; (try (have hs2 := lt_pred hs1; (try (have hs3 := lt_pred hs2; (try have hs4 := lt_pred hs3)))))))) | (go_at_call 46; refine (c_laws_szNeedS _ _ _ _ _ (Sl_Need.now (by assumption) bel) (by omega) (by omega)).mono ?_; rintro e w1 ⟨rfl, hb⟩; (first | (have hcu2 := Cum.join hcu hb; (try clear hcu); (try clear hc); (try clear hfz); (try clear hsz); (try clear hs0); (try clear hs1); (try clear hs2); (try clear hs3); (try clear hs4); ) | have hcu2 := Cum.mk hb); have hcu := hcu2; clear hcu2; obtain ⟨hc, hfz⟩ := bcell hcu.h; have hsz := hcu.h.size; (try simp at hsz); (try have hs0 := lt_of_succ_le hsz); (try (have hs1 := lt_pred hsz; (try (have hs2 := lt_pred hs1; (try (have hs3 := lt_pred hs2; (try have hs4 := lt_pred hs3)))))))) | (go_at_call 47; refine (c_laws_szToleranceS _ _ _ _ _ (Sl_Tolerance.now (by assumption) bel) (by omega) (by omega)).mono ?_; rintro e w1 ⟨rfl, hb⟩; (first | (have hcu2 := Cum.join hcu hb; (try clear hcu); (try clear hc); (try clear hfz); (try clear hsz); (try clear hs0); (try clear hs1); (try clear hs2); (try clear hs3); (try clear hs4); ) | have hcu2 := Cum.mk hb); have hcu := hcu2; clear hcu2; obtain ⟨hc, hfz⟩ := bcell hcu.h; have hsz := hcu.h.size; (try simp at hsz); (try have hs0 := lt_of_succ_le hsz); (try (have hs1 := lt_pred hsz; (try (have hs2 := lt_pred hs1; (try (have hs3 := lt_pred hs2; (try have hs4 := lt_pred hs3)))))))))
    go_ret
    exact ⟨ret_int Hf.out.symm, bel⟩
  have z_tolerances : szI (left - (d.name.size : Nat) - (nL nLabel d.labels : Nat) - (nL nNeed d.needs : Nat)) (nL nTolerance d.tolerances) = left - (d.name.size : Nat) - (nL nLabel d.labels : Nat) - (nL nNeed d.needs : Nat) - (nL nTolerance d.tolerances : Nat) := szI_pos (by omega)
  have Hf := Lib.hid (show szI left (nPod d) = left - (d.name.size : Nat) - (nL nLabel d.labels : Nat) - (nL nNeed d.needs : Nat) - (nL nTolerance d.tolerances : Nat) by unfold nPod szI; rw [if_pos (by omega)]; omega)
  go_enter Tryz.func14, Tryz.ntmps14
  go_wp2_with (first | (go_at_call 20; refine (c_laws_szLabelS _ _ _ _ _ (Sl_Label.now (by assumption) bel) (by omega) (by omega)).mono ?_; rintro e w1 ⟨rfl, hb⟩; (first | (have hcu2 := Cum.join hcu hb; (try clear hcu); (try clear hc); (try clear hfz); (try clear hsz); (try clear hs0); (try clear hs1); (try clear hs2); (try clear hs3); (try clear hs4); ) | have hcu2 := Cum.mk hb); have hcu := hcu2; clear hcu2; obtain ⟨hc, hfz⟩ := bcell hcu.h; have hsz := hcu.h.size; (try simp at hsz); (try have hs0 := lt_of_succ_le hsz); (try (have hs1 := lt_pred hsz; (try (have hs2 := lt_pred hs1; (try (have hs3 := lt_pred hs2; (try have hs4 := lt_pred hs3)))))))) | (go_at_call 46; refine (c_laws_szNeedS _ _ _ _ _ (Sl_Need.now (by assumption) bel) (by omega) (by omega)).mono ?_; rintro e w1 ⟨rfl, hb⟩; (first | (have hcu2 := Cum.join hcu hb; (try clear hcu); (try clear hc); (try clear hfz); (try clear hsz); (try clear hs0); (try clear hs1); (try clear hs2); (try clear hs3); (try clear hs4); ) | have hcu2 := Cum.mk hb); have hcu := hcu2; clear hcu2; obtain ⟨hc, hfz⟩ := bcell hcu.h; have hsz := hcu.h.size; (try simp at hsz); (try have hs0 := lt_of_succ_le hsz); (try (have hs1 := lt_pred hsz; (try (have hs2 := lt_pred hs1; (try (have hs3 := lt_pred hs2; (try have hs4 := lt_pred hs3)))))))) | (go_at_call 47; refine (c_laws_szToleranceS _ _ _ _ _ (Sl_Tolerance.now (by assumption) bel) (by omega) (by omega)).mono ?_; rintro e w1 ⟨rfl, hb⟩; (first | (have hcu2 := Cum.join hcu hb; (try clear hcu); (try clear hc); (try clear hfz); (try clear hsz); (try clear hs0); (try clear hs1); (try clear hs2); (try clear hs3); (try clear hs4); ) | have hcu2 := Cum.mk hb); have hcu := hcu2; clear hcu2; obtain ⟨hc, hfz⟩ := bcell hcu.h; have hsz := hcu.h.size; (try simp at hsz); (try have hs0 := lt_of_succ_le hsz); (try (have hs1 := lt_pred hsz; (try (have hs2 := lt_pred hs1; (try (have hs3 := lt_pred hs2; (try have hs4 := lt_pred hs3)))))))))
  go_ret
  exact ⟨ret_int Hf.out.symm, bel⟩
set_option maxHeartbeats 1000000 in
theorem c_laws_toPod (d : Pod) (cs : List Value) (w : World) (lo : Nat) (h : C_Pod lo w.heap.size w d cs) (hn : nPod d ≤ 1048576) :
    Calls Tryz.prog 16 #[.agg cs.toArray] w fun e w' => ∃ cs', e = .returned (.agg cs'.toArray) ∧ C_Pod w.heap.size w'.heap.size w' d cs' ∧ Below w.heap.size w w' := by
  obtain ⟨v1, v5, v6, rfl, a0, a1, a2, a3, a4, a5, a6⟩ := h
  obtain ⟨A1, c1, rfl⟩ := a1.form
  obtain ⟨A5, c5, rfl⟩ := a5.form
  obtain ⟨A6, c6, rfl⟩ := a6.form
  unfold I64 at a2
  unfold I64 at a3
  unfold I64 at a4
  unfold nPod at hn
  have m1 : d.labels.length ≤ 1048576 := by have := nL_def nLabel d.labels; omega
  have m5 : d.needs.length ≤ 1048576 := by have := nL_def nNeed d.needs; omega
  have m6 : d.tolerances.length ≤ 1048576 := by have := nL_def nTolerance d.tolerances; omega
  go_enter Tryz.func16, Tryz.ntmps16
  go_wp2_with fail
  refine (c_laws_toLabelS _ _ _ _ (Sl_Label.now (by assumption) bel) (by omega)).mono ?_
  rintro e w1 ⟨B1, b1, rfl, r1, hb⟩
  (first | (have hcu2 := Cum.join hcu hb; (try clear hcu); (try clear hc); (try clear hfz); (try clear hsz); (try clear hs0); (try clear hs1); (try clear hs2); (try clear hs3); (try clear hs4); ) | have hcu2 := Cum.mk hb); have hcu := hcu2; clear hcu2; obtain ⟨hc, hfz⟩ := bcell hcu.h; have hsz := hcu.h.size; (try simp at hsz); (try have hs0 := lt_of_succ_le hsz); (try (have hs1 := lt_pred hsz; (try (have hs2 := lt_pred hs1; (try (have hs3 := lt_pred hs2; (try have hs4 := lt_pred hs3)))))))
  have st1 := hb.size
  (try simp at st1)
  have su1 : w.heap.size + 1 + 1 < w1.heap.size := by omega
  have sv1 : w.heap.size + 1 < w1.heap.size := by omega
  have sw1 : w.heap.size < w1.heap.size := by omega
  go_wp2_with fail
  refine (c_laws_toNeedS _ _ _ _ (Sl_Need.now (by assumption) bel) (by omega)).mono ?_
  rintro e w5 ⟨B5, b5, rfl, r5, hb⟩
  (first | (have hcu2 := Cum.join hcu hb; (try clear hcu); (try clear hc); (try clear hfz); (try clear hsz); (try clear hs0); (try clear hs1); (try clear hs2); (try clear hs3); (try clear hs4); ) | have hcu2 := Cum.mk hb); have hcu := hcu2; clear hcu2; obtain ⟨hc, hfz⟩ := bcell hcu.h; have hsz := hcu.h.size; (try simp at hsz); (try have hs0 := lt_of_succ_le hsz); (try (have hs1 := lt_pred hsz; (try (have hs2 := lt_pred hs1; (try (have hs3 := lt_pred hs2; (try have hs4 := lt_pred hs3)))))))
  have st5 := hb.size
  (try simp at st5)
  have su5 : w.heap.size + 1 + 1 < w5.heap.size := by omega
  have sv5 : w.heap.size + 1 < w5.heap.size := by omega
  have sw5 : w.heap.size < w5.heap.size := by omega
  go_wp2_with fail
  refine (c_laws_toToleranceS _ _ _ _ (Sl_Tolerance.now (by assumption) bel) (by omega)).mono ?_
  rintro e w6 ⟨B6, b6, rfl, r6, hb⟩
  (first | (have hcu2 := Cum.join hcu hb; (try clear hcu); (try clear hc); (try clear hfz); (try clear hsz); (try clear hs0); (try clear hs1); (try clear hs2); (try clear hs3); (try clear hs4); ) | have hcu2 := Cum.mk hb); have hcu := hcu2; clear hcu2; obtain ⟨hc, hfz⟩ := bcell hcu.h; have hsz := hcu.h.size; (try simp at hsz); (try have hs0 := lt_of_succ_le hsz); (try (have hs1 := lt_pred hsz; (try (have hs2 := lt_pred hs1; (try (have hs3 := lt_pred hs2; (try have hs4 := lt_pred hs3)))))))
  have st6 := hb.size
  (try simp at st6)
  have su6 : w.heap.size + 1 + 1 < w6.heap.size := by omega
  have sv6 : w.heap.size + 1 < w6.heap.size := by omega
  have sw6 : w.heap.size < w6.heap.size := by omega
  go_wp2_with fail
  exact bodyPost_ret (v := .agg #[.string d.name, .slice B1 d.labels.length b1, .int .i64 d.cpu, .int .i64 d.mem, .int .i64 d.rank, .slice B5 d.needs.length b5, .slice B6 d.tolerances.length b6]) (by simp only [results, Tryz.results16]; go_simp) rfl ⟨[.string d.name, .slice B1 d.labels.length b1, .int .i64 d.cpu, .int .i64 d.mem, .int .i64 d.rank, .slice B5 d.needs.length b5, .slice B6 d.tolerances.length b6], rfl, ⟨_, _, _, rfl, a0, SlOf.keep r1 (by repeat (first | (with_reducible exact Same.refl _ _ _) | ((with_reducible refine same_setCell ?_ ?_); focus (simp; (try omega))) | ((with_reducible refine same_alloc ?_ ?_); focus (simp; (try omega))) | (with_reducible refine same_drewN ?_ _) | ((with_reducible (apply same_step; assumption)); focus (simp; (try omega))))) (by simp; try omega) (by simp; try omega) (fun _ _ _ h => h), a2, a3, a4, SlOf.keep r5 (by repeat (first | (with_reducible exact Same.refl _ _ _) | ((with_reducible refine same_setCell ?_ ?_); focus (simp; (try omega))) | ((with_reducible refine same_alloc ?_ ?_); focus (simp; (try omega))) | (with_reducible refine same_drewN ?_ _) | ((with_reducible (apply same_step; assumption)); focus (simp; (try omega))))) (by simp; try omega) (by simp; try omega) (fun _ _ _ h => h.keep (by repeat (first | (with_reducible exact Same.refl _ _ _) | ((with_reducible refine same_setCell ?_ ?_); focus (simp; (try omega))) | ((with_reducible refine same_alloc ?_ ?_); focus (simp; (try omega))) | (with_reducible refine same_drewN ?_ _) | ((with_reducible (apply same_step; assumption)); focus (simp; (try omega))))) (by simp; try omega) (by simp; try omega)), SlOf.keep r6 (by repeat (first | (with_reducible exact Same.refl _ _ _) | ((with_reducible refine same_setCell ?_ ?_); focus (simp; (try omega))) | ((with_reducible refine same_alloc ?_ ?_); focus (simp; (try omega))) | (with_reducible refine same_drewN ?_ _) | ((with_reducible (apply same_step; assumption)); focus (simp; (try omega))))) (by simp; try omega) (by simp; try omega) (fun _ _ _ h => h)⟩, bel⟩
theorem c_laws_eqPod (d : Pod) (cs cs' : List Value) (w : World) (lo lo' : Nat) (h : C_Pod lo w.heap.size w d cs) (h' : C_Pod lo' w.heap.size w d cs') :
    Calls Tryz.prog 18 #[.agg cs.toArray, .agg cs'.toArray] w fun e w' => e = .returned (.bool true) ∧ Below w.heap.size w w' := by
  obtain ⟨v1, v5, v6, rfl, a0, a1, a2, a3, a4, a5, a6⟩ := h
  obtain ⟨A1, c1, rfl⟩ := a1.form
  obtain ⟨A5, c5, rfl⟩ := a5.form
  obtain ⟨A6, c6, rfl⟩ := a6.form
  unfold I64 at a2
  unfold I64 at a3
  unfold I64 at a4
  obtain ⟨zv1, zv5, zv6, rfl, za0, za1, za2, za3, za4, za5, za6⟩ := h'
  obtain ⟨zA1, zc1, rfl⟩ := za1.form
  obtain ⟨zA5, zc5, rfl⟩ := za5.form
  obtain ⟨zA6, zc6, rfl⟩ := za6.form
  unfold I64 at za2
  unfold I64 at za3
  unfold I64 at za4
  go_enter Tryz.func18, Tryz.ntmps18
  go_wp2_with (first | (go_at_call 38; refine (c_laws_eqLabelS _ _ _ _ _ _ (Sl_Label.now (by assumption) bel) (Sl_Label.now (by assumption) bel)).mono ?_; rintro e w1 ⟨rfl, hb⟩; (first | (have hcu2 := Cum.join hcu hb; (try clear hcu); (try clear hc); (try clear hfz); (try clear hsz); (try clear hs0); (try clear hs1); (try clear hs2); (try clear hs3); (try clear hs4); ) | have hcu2 := Cum.mk hb); have hcu := hcu2; clear hcu2; obtain ⟨hc, hfz⟩ := bcell hcu.h; have hsz := hcu.h.size; (try simp at hsz); (try have hs0 := lt_of_succ_le hsz); (try (have hs1 := lt_pred hsz; (try (have hs2 := lt_pred hs1; (try (have hs3 := lt_pred hs2; (try have hs4 := lt_pred hs3)))))))) | (go_at_call 58; refine (c_laws_eqNeedS _ _ _ _ _ _ (Sl_Need.now (by assumption) bel) (Sl_Need.now (by assumption) bel)).mono ?_; rintro e w1 ⟨rfl, hb⟩; (first | (have hcu2 := Cum.join hcu hb; (try clear hcu); (try clear hc); (try clear hfz); (try clear hsz); (try clear hs0); (try clear hs1); (try clear hs2); (try clear hs3); (try clear hs4); ) | have hcu2 := Cum.mk hb); have hcu := hcu2; clear hcu2; obtain ⟨hc, hfz⟩ := bcell hcu.h; have hsz := hcu.h.size; (try simp at hsz); (try have hs0 := lt_of_succ_le hsz); (try (have hs1 := lt_pred hsz; (try (have hs2 := lt_pred hs1; (try (have hs3 := lt_pred hs2; (try have hs4 := lt_pred hs3)))))))) | (go_at_call 59; refine (c_laws_eqToleranceS _ _ _ _ _ _ (Sl_Tolerance.now (by assumption) bel) (Sl_Tolerance.now (by assumption) bel)).mono ?_; rintro e w1 ⟨rfl, hb⟩; (first | (have hcu2 := Cum.join hcu hb; (try clear hcu); (try clear hc); (try clear hfz); (try clear hsz); (try clear hs0); (try clear hs1); (try clear hs2); (try clear hs3); (try clear hs4); ) | have hcu2 := Cum.mk hb); have hcu := hcu2; clear hcu2; obtain ⟨hc, hfz⟩ := bcell hcu.h; have hsz := hcu.h.size; (try simp at hsz); (try have hs0 := lt_of_succ_le hsz); (try (have hs1 := lt_pred hsz; (try (have hs2 := lt_pred hs1; (try (have hs3 := lt_pred hs2; (try have hs4 := lt_pred hs3)))))))))
  go_ret
  exact ⟨rfl, bel⟩
end Go.Proofs.YteecgklmdfockaaGreatDoor
namespace Go.Proofs.YteecgklmdfockaaGreatDoor
open Go.RowKit
def nameC (c : Int) : Bool := lowerB c || digitB c || (c == 45)
def nameB (s : ByteArray) : Bool :=
  inB s.size 1 20 && s.data.toList.all (fun c => nameC (c.toNat : Int)) && (match s.data.toList.head? with | some c => ((c.toNat : Int) != 45) | none => false) && (match s.data.toList.getLast? with | some c => ((c.toNat : Int) != 45) | none => false)
theorem nameB_len {s : ByteArray} (h : inB s.size 1 20 = false) : nameB s = false := by unfold nameB; rw [h]; rfl
theorem nameB_of (s : ByteArray) (h : inB s.size 1 20 = true) (h0 : 0 < s.size) (ha : s.data.toList.all (fun c => nameC (c.toNat : Int)) = true) :
    nameB s = (((s[0].toNat : Int) != 45) && (((s[s.size - 1]'(by omega)).toNat : Int) != 45)) := by
  simp only [nameB, h, ha, data_head s h0, data_last s h0, Bool.true_and]
theorem nameB_first (s : ByteArray) (h0 : 0 < s.size) (h : ((s[0].toNat : Int) != 45) = false) : nameB s = false := by
  simp only [nameB, data_head s h0, h, Bool.and_false, Bool.false_and]
theorem nameB_last (s : ByteArray) (h0 : 0 < s.size) (h : (((s[s.size - 1]'(by omega)).toNat : Int) != 45) = false) : nameB s = false := by
  simp only [nameB, data_last s h0, h, Bool.and_false]
theorem nameB_bad (s : ByteArray) (k : Nat) (hk : k < s.size) (h : nameC (s[k].toNat : Int) = false) : nameB s = false := by
  have : s.data.toList.all (fun c => nameC (c.toNat : Int)) = false := by
    rw [List.all_eq_false]
    exact ⟨s[k], List.mem_iff_getElem?.2 ⟨k, data_getElem? s k hk⟩, by simp only [h]; decide⟩
  simp only [nameB, this, Bool.and_false, Bool.false_and]
set_option maxHeartbeats 1000000 in
theorem c_impl_NameOk (s : ByteArray) (w : World) (h1 : s.size ≤ 9223372036854775807) : Calls Tryz.prog 77 #[.string s] w fun e w' => e = .returned (.bool (nameB s)) ∧ w = w' := by
  go_enter Tryz.func77, Tryz.ntmps77
  go_wp2_with fail
  go_loop [7] (fun i => ∃ k : Nat, k ≤ s.size ∧ i = .int .i64 k ∧ (s.data.toList.take k).all (fun c => nameC (c.toNat : Int)) = true) (fun i => s.size - (intOf i).toNat)
  case atStart => exact ⟨0, Nat.zero_le _, rfl, by simp⟩
  case round =>
    obtain ⟨k, hk, rfl, hall⟩ := hrel
    have Hall := Lib.hid hall
    clear hall
    by_cases hlt : k < s.size
    · rcases hl : lowerB (s[k].toNat : Int) with _ | _
      · rcases hd : digitB (s[k].toNat : Int) with _ | _
        · rcases he : ((s[k].toNat : Int) == 45) with _ | _
          · have Hf := Lib.hid (nameB_bad s k hlt (by unfold nameC; rw [hl, hd, he]; rfl))
            have he2 : ((s[k].toNat : Int) != 45) = true := by simp only [bne, he]; rfl
            go_wp2_with (first | (go_at_call 111; refine (c_impl_isLower _ _).mono ?_; rintro e w' ⟨rfl, rfl⟩) | (go_at_call 112; refine (c_impl_isDigit _ _).mono ?_; rintro e w' ⟨rfl, rfl⟩))
            go_ret
            exact ⟨ret_bool Hf.out.symm, rfl⟩
          · have Hn := Lib.hid (all_take_succ s _ k hlt Hall.out (show nameC (s[k].toNat : Int) = true by unfold nameC; rw [he, Bool.or_true]))
            have he2 : ((s[k].toNat : Int) != 45) = false := by simp only [bne, he]; rfl
            go_wp2_with (first | (go_at_call 111; refine (c_impl_isLower _ _).mono ?_; rintro e w' ⟨rfl, rfl⟩) | (go_at_call 112; refine (c_impl_isDigit _ _).mono ?_; rintro e w' ⟨rfl, rfl⟩))
            go_round
            case rel => exact ⟨k + 1, by omega, by go_num, Hn.out⟩
            case measure => simp [intOf]; omega
        · have Hn := Lib.hid (all_take_succ s _ k hlt Hall.out (show nameC (s[k].toNat : Int) = true by unfold nameC; rw [hd, Bool.or_true, Bool.true_or]))
          go_wp2_with (first | (go_at_call 111; refine (c_impl_isLower _ _).mono ?_; rintro e w' ⟨rfl, rfl⟩) | (go_at_call 112; refine (c_impl_isDigit _ _).mono ?_; rintro e w' ⟨rfl, rfl⟩))
          go_round
          case rel => exact ⟨k + 1, by omega, by go_num, Hn.out⟩
          case measure => simp [intOf]; omega
      · have Hn := Lib.hid (all_take_succ s _ k hlt Hall.out (show nameC (s[k].toNat : Int) = true by unfold nameC; rw [hl]; rfl))
        go_wp2_with (first | (go_at_call 111; refine (c_impl_isLower _ _).mono ?_; rintro e w' ⟨rfl, rfl⟩) | (go_at_call 112; refine (c_impl_isDigit _ _).mono ?_; rintro e w' ⟨rfl, rfl⟩))
        go_round
        case rel => exact ⟨k + 1, by omega, by go_num, Hn.out⟩
        case measure => simp [intOf]; omega
    · obtain rfl : k = s.size := by omega
      rcases hi : inB (s.size : Int) 1 20 with _ | _
      · have Hf := Lib.hid (nameB_len hi)
        go_wp2_with (first | (go_at_call 80; refine (c_impl_within _ _ _ _).mono ?_; rintro e w' ⟨rfl, rfl⟩))
        go_ret
        exact ⟨ret_bool Hf.out.symm, rfl⟩
      · have h0 : 0 < s.size := by unfold inB at hi; simp at hi; omega
        have Hf := Lib.hid (nameB_of s hi h0 (by rw [← take_all_size]; exact Hall.out))
        go_wp2_with (first | (go_at_call 80; refine (c_impl_within _ _ _ _).mono ?_; rintro e w' ⟨rfl, rfl⟩))
        all_goals
          go_ret
          exact ⟨ret_bool (by rw [Hf.out] <;> simp_all), rfl⟩
theorem name_letter {c : Int} (h : letterB c = false) : (lowerB c || digitB c) = false := by
  unfold letterB at h; unfold lowerB digitB; simp at h ⊢; omega
theorem name_upper {c : Int} (h1 : 65 ≤ c) (h2 : c ≤ 90) : (lowerB c || digitB c) = false := by
  unfold lowerB digitB; simp; omega
theorem name_low {c : Int} (h : letterB c = true) (h1 : ¬ (65 ≤ c ∧ c ≤ 90)) : nameC c = true := by
  unfold letterB at h; unfold nameC lowerB digitB; simp at h ⊢; omega
theorem nameC_no {c : Int} (h : (lowerB c || digitB c) = false) (he : (c == 45) = false) : nameC c = false := by unfold nameC; rw [h, he]; rfl
theorem nameC_dash {c : Int} (he : (c == 45) = true) : nameC c = true := by unfold nameC; rw [he, Bool.or_true]
set_option maxHeartbeats 1000000 in
theorem c_spec_NameOk (s : ByteArray) (w : World) (h1 : s.size ≤ 9223372036854775807) : Calls Tryz.prog 64 #[.string s] w fun e w' => e = .returned (.bool (nameB s)) ∧ w = w' := by
  rcases hi : inB (s.size : Int) 1 20 with _ | _
  · have Hf := Lib.hid (nameB_len hi)
    go_enter Tryz.func64, Tryz.ntmps64
    go_wp2_with (first | (go_at_call 66; refine (c_spec_l01In _ _ _ _).mono ?_; rintro e w' ⟨rfl, rfl⟩))
    go_ret
    exact ⟨ret_bool Hf.out.symm, rfl⟩
  · have h0 : 0 < s.size := by unfold inB at hi; simp at hi; omega
    rcases hf : ((s[0].toNat : Int) == 45) with _ | _
    · rcases hg : (((s[s.size - 1]'(by omega)).toNat : Int) == 45) with _ | _
      · have Hz := Lib.hid (fun ha => nameB_of s hi h0 ha)
        have hf2 : ((s[0].toNat : Int) != 45) = true := by simp only [bne, hf]; rfl
        have hg2 : (((s[s.size - 1]'(by omega)).toNat : Int) != 45) = true := by simp only [bne, hg]; rfl
        go_enter Tryz.func64, Tryz.ntmps64
        go_wp2_with (first | (go_at_call 66; refine (c_spec_l01In _ _ _ _).mono ?_; rintro e w' ⟨rfl, rfl⟩))
        go_loop [3] (fun i => ∃ k : Nat, k ≤ s.size ∧ i = .int .i64 k ∧ (s.data.toList.take k).all (fun c => nameC (c.toNat : Int)) = true) (fun i => s.size - (intOf i).toNat)
        case atStart => exact ⟨0, Nat.zero_le _, rfl, by simp⟩
        case round =>
          obtain ⟨k, hk, rfl, hall⟩ := hrel
          have Hall := Lib.hid hall
          clear hall
          by_cases hlt : k < s.size
          · rcases he : ((s[k].toNat : Int) == 45) with _ | _
            · have he2 : ((s[k].toNat : Int) != 45) = true := by simp only [bne, he]; rfl
              rcases hl : letterB (s[k].toNat : Int) with _ | _
              · have Hf := Lib.hid (nameB_bad s k hlt (nameC_no (name_letter hl) he))
                go_wp2_with (first | (go_at_call 106; refine (c_spec_l14Letter _ _).mono ?_; rintro e w' ⟨rfl, rfl⟩))
                go_ret
                exact ⟨ret_bool Hf.out.symm, rfl⟩
              · by_cases ha : (65 : Int) ≤ s[k].toNat
                · by_cases hb : (s[k].toNat : Int) ≤ 90
                  · have Hf := Lib.hid (nameB_bad s k hlt (nameC_no (name_upper ha hb) he))
                    go_wp2_with (first | (go_at_call 106; refine (c_spec_l14Letter _ _).mono ?_; rintro e w' ⟨rfl, rfl⟩))
                    go_ret
                    exact ⟨ret_bool Hf.out.symm, rfl⟩
                  · have Hn := Lib.hid (all_take_succ s _ k hlt Hall.out (name_low hl (fun h => hb h.2)))
                    go_wp2_with (first | (go_at_call 106; refine (c_spec_l14Letter _ _).mono ?_; rintro e w' ⟨rfl, rfl⟩))
                    go_round
                    case rel => exact ⟨k + 1, by omega, by go_num, Hn.out⟩
                    case measure => simp [intOf]; omega
                · have Hn := Lib.hid (all_take_succ s _ k hlt Hall.out (name_low hl (fun h => ha h.1)))
                  go_wp2_with (first | (go_at_call 106; refine (c_spec_l14Letter _ _).mono ?_; rintro e w' ⟨rfl, rfl⟩))
                  go_round
                  case rel => exact ⟨k + 1, by omega, by go_num, Hn.out⟩
                  case measure => simp [intOf]; omega
            · have he2 : ((s[k].toNat : Int) != 45) = false := by simp only [bne, he]; rfl
              have Hn := Lib.hid (all_take_succ s _ k hlt Hall.out (nameC_dash he))
              go_wp2_with (first | (go_at_call 106; refine (c_spec_l14Letter _ _).mono ?_; rintro e w' ⟨rfl, rfl⟩))
              all_goals
                go_round
                case rel => exact ⟨k + 1, by omega, by go_num, Hn.out⟩
                case measure => simp [intOf]; omega
          · obtain rfl : k = s.size := by omega
            have Hf := Lib.hid (show nameB s = true by rw [Hz.out (by rw [← take_all_size]; exact Hall.out), hf2, hg2]; rfl)
            go_wp2_with fail
            go_ret
            exact ⟨ret_bool Hf.out.symm, rfl⟩
      · have Hf := Lib.hid (nameB_last s h0 (by simp only [bne, hg]; rfl))
        go_enter Tryz.func64, Tryz.ntmps64
        go_wp2_with (first | (go_at_call 66; refine (c_spec_l01In _ _ _ _).mono ?_; rintro e w' ⟨rfl, rfl⟩))
        go_ret
        exact ⟨ret_bool Hf.out.symm, rfl⟩
    · have Hf := Lib.hid (nameB_first s h0 (by simp only [bne, hf]; rfl))
      go_enter Tryz.func64, Tryz.ntmps64
      go_wp2_with (first | (go_at_call 66; refine (c_spec_l01In _ _ _ _).mono ?_; rintro e w' ⟨rfl, rfl⟩))
      go_ret
      exact ⟨ret_bool Hf.out.symm, rfl⟩
end Go.Proofs.YteecgklmdfockaaGreatDoor
namespace Go.Proofs.YteecgklmdfockaaGreatDoor
open Go.RowKit
def cmpF (a b : Bool) : Int := if a == b then 0 else if b then -1 else 1
def cmpTol (a b : Tolerance) : Int := orI [cmpS a.key b.key, cmpF a.equal b.equal, cmpS a.value b.value, cmpI a.effect b.effect]
def lessTol (a b : Tolerance) : Bool := if !(a.key.toList == b.key.toList) then lessS a.key b.key else if !(a.equal == b.equal) then b.equal else if !(a.value.toList == b.value.toList) then lessS a.value b.value else decide (a.effect < b.effect)
theorem c_spec_l16Before (a b : Tolerance) (ca cb : List Value) (w : World) (ha : C_Tolerance a ca) (hb : C_Tolerance b cb) :
    Calls Tryz.prog 119 #[.agg ca.toArray, .agg cb.toArray] w fun e w' => e = .returned (.bool (lessTol a b)) ∧ Below w.heap.size w w' := by
  obtain ⟨rfl, -, -, -⟩ := ha
  obtain ⟨rfl, -, -, -⟩ := hb
  go_enter Tryz.func119, Tryz.ntmps119
  go_wp2_with fail
  all_goals
    go_ret
    refine ⟨ret_bool ?_, bel⟩
    simp only [lessTol, lessS, *]
    simp_all
theorem c_impl_compareFlags (a b : Bool) (w : World) :
    Calls Tryz.prog 131 #[.bool a, .bool b] w fun e w' => e = .returned (.int .i64 (cmpF a b)) ∧ w = w' := by
  cases a <;> cases b
  all_goals
    go_enter Tryz.func131, Tryz.ntmps131
    go_wp2_with fail
    go_ret
    exact ⟨rfl, rfl⟩
theorem c_impl_compareTolerances (a b : Tolerance) (ca cb : List Value) (w : World) (ha : C_Tolerance a ca) (hb : C_Tolerance b cb) :
    Calls Tryz.prog 122 #[.agg ca.toArray, .agg cb.toArray] w fun e w' => e = .returned (.int .i64 (cmpTol a b)) ∧ Below w.heap.size w w' := by
  obtain ⟨rfl, -, -, -⟩ := ha
  obtain ⟨rfl, -, -, -⟩ := hb
  go_enter Tryz.func122, Tryz.ntmps122
  go_wp2_with fail
  go_region_held3 (fun w' => Below ((w.alloc (.cells #[.string a.key, .bool a.equal, .string a.value, .int .i64 a.effect] 87)).alloc (.cells #[.string b.key, .bool b.equal, .string b.value, .int .i64 b.effect] 87)).heap.size ((w.alloc (.cells #[.string a.key, .bool a.equal, .string a.value, .int .i64 a.effect] 87)).alloc (.cells #[.string b.key, .bool b.equal, .string b.value, .int .i64 b.effect] 87)) w' ∧ (∀ xb xo, xb < ((w.alloc (.cells #[.string a.key, .bool a.equal, .string a.value, .int .i64 a.effect] 87)).alloc (.cells #[.string b.key, .bool b.equal, .string b.value, .int .i64 b.effect] 87)).heap.size → w'.cell? ⟨xb, xo, none⟩ = ((w.alloc (.cells #[.string a.key, .bool a.equal, .string a.value, .int .i64 a.effect] 87)).alloc (.cells #[.string b.key, .bool b.equal, .string b.value, .int .i64 b.effect] 87)).cell? ⟨xb, xo, none⟩)) (first | exact keep_drew _ | exact keep_ext (by assumption) (by assumption) | exact keep_same (by assumption) | exact keep_alloc (by assumption) _) (first | (go_at_call 127; refine (c_strings_Compare _ _ _).mono ?_; rintro e w9 ⟨rfl, rfl⟩) | (go_at_call 128; refine (c_cmp_Compare _ _ _).mono ?_; rintro e w9 ⟨rfl, rfl⟩) | (go_at_call 131; refine (c_impl_compareFlags _ _ _).mono ?_; rintro e w9 ⟨rfl, rfl⟩) | (go_at_call 126; refine (c_cmp_Or4 (cmpS a.key b.key) (cmpF a.equal b.equal) (cmpS a.value b.value) (cmpI a.effect b.effect) _ _ 3 ?_).mono ?_; (focus ((try rw [heap_drew]); (try (refine heap_new ?_; simp)); done)); rintro e w9 ⟨rfl, rfl⟩))
  (have hb := held_step (by assumption); (first | (have hcu2 := Cum.join hcu hb; (try clear hcu); (try clear hc); (try clear hfz); (try clear hsz); (try clear hs0); (try clear hs1); (try clear hs2); (try clear hs3); (try clear hs4); ) | have hcu2 := Cum.mk hb); have hcu := hcu2; clear hcu2; obtain ⟨hc, hfz⟩ := bcell hcu.h; have hsz := hcu.h.size; (try simp at hsz); (try have hs0 := lt_of_succ_le hsz); (try (have hs1 := lt_pred hsz; (try (have hs2 := lt_pred hs1; (try (have hs3 := lt_pred hs2; (try have hs4 := lt_pred hs3))))))))
  go_wp2_with fail
  go_ret
  exact ⟨rfl, bel⟩
theorem lessTol_iff (a b : Tolerance) : lessTol a b = decide (cmpTol a b < 0) := by
  have h1 := cmpS_cases a.key b.key
  have h2 := cmpS_cases a.value b.value
  have h3 := cmpI_cases a.effect b.effect
  unfold lessTol cmpTol cmpF
  rw [beq_toList, beq_toList]
  rcases h1 with ⟨e1, d1⟩ | ⟨e1, d1, l1⟩ | ⟨e1, d1, l1⟩ <;> simp only [e1, d1, orI] <;> simp_all
  rcases a.equal with _ | _ <;> rcases b.equal with _ | _ <;> simp_all
  all_goals
    rcases h2 with ⟨e2, d2⟩ | ⟨e2, d2, l2⟩ | ⟨e2, d2, l2⟩ <;> simp_all
    rcases h3 with ⟨e3, d3⟩ | ⟨e3, d3⟩ | ⟨e3, d3⟩ <;> simp_all <;> omega
end Go.Proofs.YteecgklmdfockaaGreatDoor
