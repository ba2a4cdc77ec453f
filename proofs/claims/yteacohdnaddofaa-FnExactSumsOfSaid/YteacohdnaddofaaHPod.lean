/- Contracts of the laws' own functions on Pod: sizes, copies, comparisons. No conditions. Written by wip/tools/genhelp.py. -/
import Derived.Test.YteacohdnaddofaaStrs
import Derived.Test.YteacohdnaddofaaHLabel
import Derived.Test.YteacohdnaddofaaHNeed
import Derived.Test.YteacohdnaddofaaHTolerance
namespace Go.Proofs.Yteacohdnaddofaa
open Go.RowKit

def nPod (d : Pod) : Nat := d.name.size + nL nLabel d.labels + nL nNeed d.needs + nL nTolerance d.tolerances
theorem C_Pod.open {lo hi : Nat} {w : World} {d : Pod} {cs : List Value} (h : C_Pod lo hi w d cs) : ∃ A1 c1 A5 c5 A6 c6, cs = [.string d.name, .slice A1 d.labels.length c1, .int .i64 d.cpu, .int .i64 d.mem, .int .i64 d.rank, .slice A5 d.needs.length c5, .slice A6 d.tolerances.length c6] := by
  obtain ⟨v1, v5, v6, rfl, a0, a1, a2, a3, a4, a5, a6⟩ := h
  obtain ⟨A1, c1, rfl⟩ := a1.form
  obtain ⟨A5, c5, rfl⟩ := a5.form
  obtain ⟨A6, c6, rfl⟩ := a6.form
  exact ⟨A1, c1, A5, c5, A6, c6, rfl⟩
theorem c_laws_szPod (d : Pod) (cs : List Value) (left : Int) (w : World) (lo : Nat) (h : C_Pod lo w.heap.size w d cs) (h3 : 0 ≤ left) (h4 : left ≤ 1048576) :
    Calls Try.prog 29 #[.agg cs.toArray, .int .i64 left] w fun e w' => e = .returned (.int .i64 (szI left (nPod d))) ∧ Below w.heap.size w w' := by
  obtain ⟨v1, v5, v6, rfl, a0, a1, a2, a3, a4, a5, a6⟩ := h
  obtain ⟨A1, c1, rfl⟩ := a1.form
  obtain ⟨A5, c5, rfl⟩ := a5.form
  obtain ⟨A6, c6, rfl⟩ := a6.form
  unfold I64 at a2
  unfold I64 at a3
  unfold I64 at a4
  by_cases g_name : left - (d.name.size : Nat) < 0
  · have Hf := Lib.hid (show szI left (nPod d) = -1 by unfold nPod szI; rw [if_neg (by omega)])
    go_enter Try.func29, Try.ntmps29
    go_wp2_with (first | (go_at_call 63; refine (c_laws_szLabelS _ _ _ _ _ (Sl_Label.now (by assumption) (by repeat (first | (with_reducible exact Below.refl _ _) | (with_reducible refine ext_alloc ?_) | ((with_reducible refine ext_setCell ?_ ?_); focus (simp; (try omega))) | (with_reducible refine below_drewN ?_ _) | (with_reducible refine Below.drew ?_) | (with_reducible (apply ext_step; assumption))))) (by omega) (by omega)).mono ?_; rintro e w1 ⟨rfl, hb⟩; (first | (have hcu2 := Cum.join hcu hb; (try clear hcu); (try clear hc); (try clear hfz); (try clear hsz); (try clear hs0); (try clear hs1); (try clear hs2); (try clear hs3); (try clear hs4); ) | have hcu2 := Cum.mk hb); have hcu := hcu2; clear hcu2; obtain ⟨hc, hfz⟩ := bcell hcu.h; have hsz := hcu.h.size; (try simp at hsz); (try have hs0 := lt_of_succ_le hsz); (try (have hs1 := lt_pred hsz; (try (have hs2 := lt_pred hs1; (try (have hs3 := lt_pred hs2; (try have hs4 := lt_pred hs3)))))))) | (go_at_call 64; refine (c_laws_szNeedS _ _ _ _ _ (Sl_Need.now (by assumption) (by repeat (first | (with_reducible exact Below.refl _ _) | (with_reducible refine ext_alloc ?_) | ((with_reducible refine ext_setCell ?_ ?_); focus (simp; (try omega))) | (with_reducible refine below_drewN ?_ _) | (with_reducible refine Below.drew ?_) | (with_reducible (apply ext_step; assumption))))) (by omega) (by omega)).mono ?_; rintro e w1 ⟨rfl, hb⟩; (first | (have hcu2 := Cum.join hcu hb; (try clear hcu); (try clear hc); (try clear hfz); (try clear hsz); (try clear hs0); (try clear hs1); (try clear hs2); (try clear hs3); (try clear hs4); ) | have hcu2 := Cum.mk hb); have hcu := hcu2; clear hcu2; obtain ⟨hc, hfz⟩ := bcell hcu.h; have hsz := hcu.h.size; (try simp at hsz); (try have hs0 := lt_of_succ_le hsz); (try (have hs1 := lt_pred hsz; (try (have hs2 := lt_pred hs1; (try (have hs3 := lt_pred hs2; (try have hs4 := lt_pred hs3)))))))) | (go_at_call 65; refine (c_laws_szToleranceS _ _ _ _ _ (Sl_Tolerance.now (by assumption) (by repeat (first | (with_reducible exact Below.refl _ _) | (with_reducible refine ext_alloc ?_) | ((with_reducible refine ext_setCell ?_ ?_); focus (simp; (try omega))) | (with_reducible refine below_drewN ?_ _) | (with_reducible refine Below.drew ?_) | (with_reducible (apply ext_step; assumption))))) (by omega) (by omega)).mono ?_; rintro e w1 ⟨rfl, hb⟩; (first | (have hcu2 := Cum.join hcu hb; (try clear hcu); (try clear hc); (try clear hfz); (try clear hsz); (try clear hs0); (try clear hs1); (try clear hs2); (try clear hs3); (try clear hs4); ) | have hcu2 := Cum.mk hb); have hcu := hcu2; clear hcu2; obtain ⟨hc, hfz⟩ := bcell hcu.h; have hsz := hcu.h.size; (try simp at hsz); (try have hs0 := lt_of_succ_le hsz); (try (have hs1 := lt_pred hsz; (try (have hs2 := lt_pred hs1; (try (have hs3 := lt_pred hs2; (try have hs4 := lt_pred hs3)))))))))
    go_ret
    exact ⟨ret_int Hf.out.symm, (by repeat (first | (with_reducible exact Below.refl _ _) | (with_reducible refine ext_alloc ?_) | ((with_reducible refine ext_setCell ?_ ?_); focus (simp; (try omega))) | (with_reducible refine below_drewN ?_ _) | (with_reducible refine Below.drew ?_) | (with_reducible (apply ext_step; assumption))))⟩
  by_cases g_labels : left - (d.name.size : Nat) - (nL nLabel d.labels : Nat) < 0
  · have Hf := Lib.hid (show szI left (nPod d) = -1 by unfold nPod szI; rw [if_neg (by omega)])
    have z_labels : szI (left - (d.name.size : Nat)) (nL nLabel d.labels) = -1 := szI_neg (by omega)
    go_enter Try.func29, Try.ntmps29
    go_wp2_with (first | (go_at_call 63; refine (c_laws_szLabelS _ _ _ _ _ (Sl_Label.now (by assumption) (by repeat (first | (with_reducible exact Below.refl _ _) | (with_reducible refine ext_alloc ?_) | ((with_reducible refine ext_setCell ?_ ?_); focus (simp; (try omega))) | (with_reducible refine below_drewN ?_ _) | (with_reducible refine Below.drew ?_) | (with_reducible (apply ext_step; assumption))))) (by omega) (by omega)).mono ?_; rintro e w1 ⟨rfl, hb⟩; (first | (have hcu2 := Cum.join hcu hb; (try clear hcu); (try clear hc); (try clear hfz); (try clear hsz); (try clear hs0); (try clear hs1); (try clear hs2); (try clear hs3); (try clear hs4); ) | have hcu2 := Cum.mk hb); have hcu := hcu2; clear hcu2; obtain ⟨hc, hfz⟩ := bcell hcu.h; have hsz := hcu.h.size; (try simp at hsz); (try have hs0 := lt_of_succ_le hsz); (try (have hs1 := lt_pred hsz; (try (have hs2 := lt_pred hs1; (try (have hs3 := lt_pred hs2; (try have hs4 := lt_pred hs3)))))))) | (go_at_call 64; refine (c_laws_szNeedS _ _ _ _ _ (Sl_Need.now (by assumption) (by repeat (first | (with_reducible exact Below.refl _ _) | (with_reducible refine ext_alloc ?_) | ((with_reducible refine ext_setCell ?_ ?_); focus (simp; (try omega))) | (with_reducible refine below_drewN ?_ _) | (with_reducible refine Below.drew ?_) | (with_reducible (apply ext_step; assumption))))) (by omega) (by omega)).mono ?_; rintro e w1 ⟨rfl, hb⟩; (first | (have hcu2 := Cum.join hcu hb; (try clear hcu); (try clear hc); (try clear hfz); (try clear hsz); (try clear hs0); (try clear hs1); (try clear hs2); (try clear hs3); (try clear hs4); ) | have hcu2 := Cum.mk hb); have hcu := hcu2; clear hcu2; obtain ⟨hc, hfz⟩ := bcell hcu.h; have hsz := hcu.h.size; (try simp at hsz); (try have hs0 := lt_of_succ_le hsz); (try (have hs1 := lt_pred hsz; (try (have hs2 := lt_pred hs1; (try (have hs3 := lt_pred hs2; (try have hs4 := lt_pred hs3)))))))) | (go_at_call 65; refine (c_laws_szToleranceS _ _ _ _ _ (Sl_Tolerance.now (by assumption) (by repeat (first | (with_reducible exact Below.refl _ _) | (with_reducible refine ext_alloc ?_) | ((with_reducible refine ext_setCell ?_ ?_); focus (simp; (try omega))) | (with_reducible refine below_drewN ?_ _) | (with_reducible refine Below.drew ?_) | (with_reducible (apply ext_step; assumption))))) (by omega) (by omega)).mono ?_; rintro e w1 ⟨rfl, hb⟩; (first | (have hcu2 := Cum.join hcu hb; (try clear hcu); (try clear hc); (try clear hfz); (try clear hsz); (try clear hs0); (try clear hs1); (try clear hs2); (try clear hs3); (try clear hs4); ) | have hcu2 := Cum.mk hb); have hcu := hcu2; clear hcu2; obtain ⟨hc, hfz⟩ := bcell hcu.h; have hsz := hcu.h.size; (try simp at hsz); (try have hs0 := lt_of_succ_le hsz); (try (have hs1 := lt_pred hsz; (try (have hs2 := lt_pred hs1; (try (have hs3 := lt_pred hs2; (try have hs4 := lt_pred hs3)))))))))
    go_ret
    exact ⟨ret_int Hf.out.symm, (by repeat (first | (with_reducible exact Below.refl _ _) | (with_reducible refine ext_alloc ?_) | ((with_reducible refine ext_setCell ?_ ?_); focus (simp; (try omega))) | (with_reducible refine below_drewN ?_ _) | (with_reducible refine Below.drew ?_) | (with_reducible (apply ext_step; assumption))))⟩
  have z_labels : szI (left - (d.name.size : Nat)) (nL nLabel d.labels) = left - (d.name.size : Nat) - (nL nLabel d.labels : Nat) := szI_pos (by omega)
  by_cases g_needs : left - (d.name.size : Nat) - (nL nLabel d.labels : Nat) - (nL nNeed d.needs : Nat) < 0
  · have Hf := Lib.hid (show szI left (nPod d) = -1 by unfold nPod szI; rw [if_neg (by omega)])
    have z_needs : szI (left - (d.name.size : Nat) - (nL nLabel d.labels : Nat)) (nL nNeed d.needs) = -1 := szI_neg (by omega)
    go_enter Try.func29, Try.ntmps29
    go_wp2_with (first | (go_at_call 63; refine (c_laws_szLabelS _ _ _ _ _ (Sl_Label.now (by assumption) (by repeat (first | (with_reducible exact Below.refl _ _) | (with_reducible refine ext_alloc ?_) | ((with_reducible refine ext_setCell ?_ ?_); focus (simp; (try omega))) | (with_reducible refine below_drewN ?_ _) | (with_reducible refine Below.drew ?_) | (with_reducible (apply ext_step; assumption))))) (by omega) (by omega)).mono ?_; rintro e w1 ⟨rfl, hb⟩; (first | (have hcu2 := Cum.join hcu hb; (try clear hcu); (try clear hc); (try clear hfz); (try clear hsz); (try clear hs0); (try clear hs1); (try clear hs2); (try clear hs3); (try clear hs4); ) | have hcu2 := Cum.mk hb); have hcu := hcu2; clear hcu2; obtain ⟨hc, hfz⟩ := bcell hcu.h; have hsz := hcu.h.size; (try simp at hsz); (try have hs0 := lt_of_succ_le hsz); (try (have hs1 := lt_pred hsz; (try (have hs2 := lt_pred hs1; (try (have hs3 := lt_pred hs2; (try have hs4 := lt_pred hs3)))))))) | (go_at_call 64; refine (c_laws_szNeedS _ _ _ _ _ (Sl_Need.now (by assumption) (by repeat (first | (with_reducible exact Below.refl _ _) | (with_reducible refine ext_alloc ?_) | ((with_reducible refine ext_setCell ?_ ?_); focus (simp; (try omega))) | (with_reducible refine below_drewN ?_ _) | (with_reducible refine Below.drew ?_) | (with_reducible (apply ext_step; assumption))))) (by omega) (by omega)).mono ?_; rintro e w1 ⟨rfl, hb⟩; (first | (have hcu2 := Cum.join hcu hb; (try clear hcu); (try clear hc); (try clear hfz); (try clear hsz); (try clear hs0); (try clear hs1); (try clear hs2); (try clear hs3); (try clear hs4); ) | have hcu2 := Cum.mk hb); have hcu := hcu2; clear hcu2; obtain ⟨hc, hfz⟩ := bcell hcu.h; have hsz := hcu.h.size; (try simp at hsz); (try have hs0 := lt_of_succ_le hsz); (try (have hs1 := lt_pred hsz; (try (have hs2 := lt_pred hs1; (try (have hs3 := lt_pred hs2; (try have hs4 := lt_pred hs3)))))))) | (go_at_call 65; refine (c_laws_szToleranceS _ _ _ _ _ (Sl_Tolerance.now (by assumption) (by repeat (first | (with_reducible exact Below.refl _ _) | (with_reducible refine ext_alloc ?_) | ((with_reducible refine ext_setCell ?_ ?_); focus (simp; (try omega))) | (with_reducible refine below_drewN ?_ _) | (with_reducible refine Below.drew ?_) | (with_reducible (apply ext_step; assumption))))) (by omega) (by omega)).mono ?_; rintro e w1 ⟨rfl, hb⟩; (first | (have hcu2 := Cum.join hcu hb; (try clear hcu); (try clear hc); (try clear hfz); (try clear hsz); (try clear hs0); (try clear hs1); (try clear hs2); (try clear hs3); (try clear hs4); ) | have hcu2 := Cum.mk hb); have hcu := hcu2; clear hcu2; obtain ⟨hc, hfz⟩ := bcell hcu.h; have hsz := hcu.h.size; (try simp at hsz); (try have hs0 := lt_of_succ_le hsz); (try (have hs1 := lt_pred hsz; (try (have hs2 := lt_pred hs1; (try (have hs3 := lt_pred hs2; (try have hs4 := lt_pred hs3)))))))))
    go_ret
    exact ⟨ret_int Hf.out.symm, (by repeat (first | (with_reducible exact Below.refl _ _) | (with_reducible refine ext_alloc ?_) | ((with_reducible refine ext_setCell ?_ ?_); focus (simp; (try omega))) | (with_reducible refine below_drewN ?_ _) | (with_reducible refine Below.drew ?_) | (with_reducible (apply ext_step; assumption))))⟩
  have z_needs : szI (left - (d.name.size : Nat) - (nL nLabel d.labels : Nat)) (nL nNeed d.needs) = left - (d.name.size : Nat) - (nL nLabel d.labels : Nat) - (nL nNeed d.needs : Nat) := szI_pos (by omega)
  by_cases g_tolerances : left - (d.name.size : Nat) - (nL nLabel d.labels : Nat) - (nL nNeed d.needs : Nat) - (nL nTolerance d.tolerances : Nat) < 0
  · have Hf := Lib.hid (show szI left (nPod d) = -1 by unfold nPod szI; rw [if_neg (by omega)])
    have z_tolerances : szI (left - (d.name.size : Nat) - (nL nLabel d.labels : Nat) - (nL nNeed d.needs : Nat)) (nL nTolerance d.tolerances) = -1 := szI_neg (by omega)
    go_enter Try.func29, Try.ntmps29
    go_wp2_with (first | (go_at_call 63; refine (c_laws_szLabelS _ _ _ _ _ (Sl_Label.now (by assumption) (by repeat (first | (with_reducible exact Below.refl _ _) | (with_reducible refine ext_alloc ?_) | ((with_reducible refine ext_setCell ?_ ?_); focus (simp; (try omega))) | (with_reducible refine below_drewN ?_ _) | (with_reducible refine Below.drew ?_) | (with_reducible (apply ext_step; assumption))))) (by omega) (by omega)).mono ?_; rintro e w1 ⟨rfl, hb⟩; (first | (have hcu2 := Cum.join hcu hb; (try clear hcu); (try clear hc); (try clear hfz); (try clear hsz); (try clear hs0); (try clear hs1); (try clear hs2); (try clear hs3); (try clear hs4); ) | have hcu2 := Cum.mk hb); have hcu := hcu2; clear hcu2; obtain ⟨hc, hfz⟩ := bcell hcu.h; have hsz := hcu.h.size; (try simp at hsz); (try have hs0 := lt_of_succ_le hsz); (try (have hs1 := lt_pred hsz; (try (have hs2 := lt_pred hs1; (try (have hs3 := lt_pred hs2; (try have hs4 := lt_pred hs3)))))))) | (go_at_call 64; refine (c_laws_szNeedS _ _ _ _ _ (Sl_Need.now (by assumption) (by repeat (first | (with_reducible exact Below.refl _ _) | (with_reducible refine ext_alloc ?_) | ((with_reducible refine ext_setCell ?_ ?_); focus (simp; (try omega))) | (with_reducible refine below_drewN ?_ _) | (with_reducible refine Below.drew ?_) | (with_reducible (apply ext_step; assumption))))) (by omega) (by omega)).mono ?_; rintro e w1 ⟨rfl, hb⟩; (first | (have hcu2 := Cum.join hcu hb; (try clear hcu); (try clear hc); (try clear hfz); (try clear hsz); (try clear hs0); (try clear hs1); (try clear hs2); (try clear hs3); (try clear hs4); ) | have hcu2 := Cum.mk hb); have hcu := hcu2; clear hcu2; obtain ⟨hc, hfz⟩ := bcell hcu.h; have hsz := hcu.h.size; (try simp at hsz); (try have hs0 := lt_of_succ_le hsz); (try (have hs1 := lt_pred hsz; (try (have hs2 := lt_pred hs1; (try (have hs3 := lt_pred hs2; (try have hs4 := lt_pred hs3)))))))) | (go_at_call 65; refine (c_laws_szToleranceS _ _ _ _ _ (Sl_Tolerance.now (by assumption) (by repeat (first | (with_reducible exact Below.refl _ _) | (with_reducible refine ext_alloc ?_) | ((with_reducible refine ext_setCell ?_ ?_); focus (simp; (try omega))) | (with_reducible refine below_drewN ?_ _) | (with_reducible refine Below.drew ?_) | (with_reducible (apply ext_step; assumption))))) (by omega) (by omega)).mono ?_; rintro e w1 ⟨rfl, hb⟩; (first | (have hcu2 := Cum.join hcu hb; (try clear hcu); (try clear hc); (try clear hfz); (try clear hsz); (try clear hs0); (try clear hs1); (try clear hs2); (try clear hs3); (try clear hs4); ) | have hcu2 := Cum.mk hb); have hcu := hcu2; clear hcu2; obtain ⟨hc, hfz⟩ := bcell hcu.h; have hsz := hcu.h.size; (try simp at hsz); (try have hs0 := lt_of_succ_le hsz); (try (have hs1 := lt_pred hsz; (try (have hs2 := lt_pred hs1; (try (have hs3 := lt_pred hs2; (try have hs4 := lt_pred hs3)))))))))
    go_ret
    exact ⟨ret_int Hf.out.symm, (by repeat (first | (with_reducible exact Below.refl _ _) | (with_reducible refine ext_alloc ?_) | ((with_reducible refine ext_setCell ?_ ?_); focus (simp; (try omega))) | (with_reducible refine below_drewN ?_ _) | (with_reducible refine Below.drew ?_) | (with_reducible (apply ext_step; assumption))))⟩
  have z_tolerances : szI (left - (d.name.size : Nat) - (nL nLabel d.labels : Nat) - (nL nNeed d.needs : Nat)) (nL nTolerance d.tolerances) = left - (d.name.size : Nat) - (nL nLabel d.labels : Nat) - (nL nNeed d.needs : Nat) - (nL nTolerance d.tolerances : Nat) := szI_pos (by omega)
  have Hf := Lib.hid (show szI left (nPod d) = left - (d.name.size : Nat) - (nL nLabel d.labels : Nat) - (nL nNeed d.needs : Nat) - (nL nTolerance d.tolerances : Nat) by unfold nPod szI; rw [if_pos (by omega)]; omega)
  go_enter Try.func29, Try.ntmps29
  go_wp2_with (first | (go_at_call 63; refine (c_laws_szLabelS _ _ _ _ _ (Sl_Label.now (by assumption) (by repeat (first | (with_reducible exact Below.refl _ _) | (with_reducible refine ext_alloc ?_) | ((with_reducible refine ext_setCell ?_ ?_); focus (simp; (try omega))) | (with_reducible refine below_drewN ?_ _) | (with_reducible refine Below.drew ?_) | (with_reducible (apply ext_step; assumption))))) (by omega) (by omega)).mono ?_; rintro e w1 ⟨rfl, hb⟩; (first | (have hcu2 := Cum.join hcu hb; (try clear hcu); (try clear hc); (try clear hfz); (try clear hsz); (try clear hs0); (try clear hs1); (try clear hs2); (try clear hs3); (try clear hs4); ) | have hcu2 := Cum.mk hb); have hcu := hcu2; clear hcu2; obtain ⟨hc, hfz⟩ := bcell hcu.h; have hsz := hcu.h.size; (try simp at hsz); (try have hs0 := lt_of_succ_le hsz); (try (have hs1 := lt_pred hsz; (try (have hs2 := lt_pred hs1; (try (have hs3 := lt_pred hs2; (try have hs4 := lt_pred hs3)))))))) | (go_at_call 64; refine (c_laws_szNeedS _ _ _ _ _ (Sl_Need.now (by assumption) (by repeat (first | (with_reducible exact Below.refl _ _) | (with_reducible refine ext_alloc ?_) | ((with_reducible refine ext_setCell ?_ ?_); focus (simp; (try omega))) | (with_reducible refine below_drewN ?_ _) | (with_reducible refine Below.drew ?_) | (with_reducible (apply ext_step; assumption))))) (by omega) (by omega)).mono ?_; rintro e w1 ⟨rfl, hb⟩; (first | (have hcu2 := Cum.join hcu hb; (try clear hcu); (try clear hc); (try clear hfz); (try clear hsz); (try clear hs0); (try clear hs1); (try clear hs2); (try clear hs3); (try clear hs4); ) | have hcu2 := Cum.mk hb); have hcu := hcu2; clear hcu2; obtain ⟨hc, hfz⟩ := bcell hcu.h; have hsz := hcu.h.size; (try simp at hsz); (try have hs0 := lt_of_succ_le hsz); (try (have hs1 := lt_pred hsz; (try (have hs2 := lt_pred hs1; (try (have hs3 := lt_pred hs2; (try have hs4 := lt_pred hs3)))))))) | (go_at_call 65; refine (c_laws_szToleranceS _ _ _ _ _ (Sl_Tolerance.now (by assumption) (by repeat (first | (with_reducible exact Below.refl _ _) | (with_reducible refine ext_alloc ?_) | ((with_reducible refine ext_setCell ?_ ?_); focus (simp; (try omega))) | (with_reducible refine below_drewN ?_ _) | (with_reducible refine Below.drew ?_) | (with_reducible (apply ext_step; assumption))))) (by omega) (by omega)).mono ?_; rintro e w1 ⟨rfl, hb⟩; (first | (have hcu2 := Cum.join hcu hb; (try clear hcu); (try clear hc); (try clear hfz); (try clear hsz); (try clear hs0); (try clear hs1); (try clear hs2); (try clear hs3); (try clear hs4); ) | have hcu2 := Cum.mk hb); have hcu := hcu2; clear hcu2; obtain ⟨hc, hfz⟩ := bcell hcu.h; have hsz := hcu.h.size; (try simp at hsz); (try have hs0 := lt_of_succ_le hsz); (try (have hs1 := lt_pred hsz; (try (have hs2 := lt_pred hs1; (try (have hs3 := lt_pred hs2; (try have hs4 := lt_pred hs3)))))))))
  go_ret
  exact ⟨ret_int Hf.out.symm, (by repeat (first | (with_reducible exact Below.refl _ _) | (with_reducible refine ext_alloc ?_) | ((with_reducible refine ext_setCell ?_ ?_); focus (simp; (try omega))) | (with_reducible refine below_drewN ?_ _) | (with_reducible refine Below.drew ?_) | (with_reducible (apply ext_step; assumption))))⟩
set_option maxHeartbeats 1000000 in
theorem c_laws_toPod (d : Pod) (cs : List Value) (w : World) (lo : Nat) (h : C_Pod lo w.heap.size w d cs) (hn : nPod d ≤ 1048576) :
    Calls Try.prog 31 #[.agg cs.toArray] w fun e w' => ∃ cs', e = .returned (.agg cs'.toArray) ∧ C_Pod w.heap.size w'.heap.size w' d cs' ∧ Below w.heap.size w w' := by
  obtain ⟨v1, v5, v6, rfl, a0, a1, a2, a3, a4, a5, a6⟩ := h
  obtain ⟨A1, c1, rfl⟩ := a1.form
  obtain ⟨A5, c5, rfl⟩ := a5.form
  obtain ⟨A6, c6, rfl⟩ := a6.form
  unfold I64 at a2
  unfold I64 at a3
  unfold I64 at a4
  unfold nPod at hn
  have m1 : d.labels.length ≤ 1048576 := by have := nL_def nLabel d.labels; omega
  have m5 : d.needs.length ≤ 1048576 := by have := nL_def nNeed d.needs; omega
  have m6 : d.tolerances.length ≤ 1048576 := by have := nL_def nTolerance d.tolerances; omega
  go_enter Try.func31, Try.ntmps31
  go_wp2_with fail
  refine (c_laws_toLabelS _ _ _ _ (Sl_Label.now (by assumption) (by repeat (first | (with_reducible exact Below.refl _ _) | (with_reducible refine ext_alloc ?_) | ((with_reducible refine ext_setCell ?_ ?_); focus (simp; (try omega))) | (with_reducible refine below_drewN ?_ _) | (with_reducible refine Below.drew ?_) | (with_reducible (apply ext_step; assumption))))) (by omega)).mono ?_
  rintro e w1 ⟨B1, b1, rfl, r1, hb⟩
  (first | (have hcu2 := Cum.join hcu hb; (try clear hcu); (try clear hc); (try clear hfz); (try clear hsz); (try clear hs0); (try clear hs1); (try clear hs2); (try clear hs3); (try clear hs4); ) | have hcu2 := Cum.mk hb); have hcu := hcu2; clear hcu2; obtain ⟨hc, hfz⟩ := bcell hcu.h; have hsz := hcu.h.size; (try simp at hsz); (try have hs0 := lt_of_succ_le hsz); (try (have hs1 := lt_pred hsz; (try (have hs2 := lt_pred hs1; (try (have hs3 := lt_pred hs2; (try have hs4 := lt_pred hs3)))))))
  have st1 := hb.size
  (try simp at st1)
  have su1 : w.heap.size + 1 + 1 < w1.heap.size := by omega
  have sv1 : w.heap.size + 1 < w1.heap.size := by omega
  have sw1 : w.heap.size < w1.heap.size := by omega
  go_wp2_with fail
  refine (c_laws_toNeedS _ _ _ _ (Sl_Need.now (by assumption) (by repeat (first | (with_reducible exact Below.refl _ _) | (with_reducible refine ext_alloc ?_) | ((with_reducible refine ext_setCell ?_ ?_); focus (simp; (try omega))) | (with_reducible refine below_drewN ?_ _) | (with_reducible refine Below.drew ?_) | (with_reducible (apply ext_step; assumption))))) (by omega)).mono ?_
  rintro e w5 ⟨B5, b5, rfl, r5, hb⟩
  (first | (have hcu2 := Cum.join hcu hb; (try clear hcu); (try clear hc); (try clear hfz); (try clear hsz); (try clear hs0); (try clear hs1); (try clear hs2); (try clear hs3); (try clear hs4); ) | have hcu2 := Cum.mk hb); have hcu := hcu2; clear hcu2; obtain ⟨hc, hfz⟩ := bcell hcu.h; have hsz := hcu.h.size; (try simp at hsz); (try have hs0 := lt_of_succ_le hsz); (try (have hs1 := lt_pred hsz; (try (have hs2 := lt_pred hs1; (try (have hs3 := lt_pred hs2; (try have hs4 := lt_pred hs3)))))))
  have st5 := hb.size
  (try simp at st5)
  have su5 : w.heap.size + 1 + 1 < w5.heap.size := by omega
  have sv5 : w.heap.size + 1 < w5.heap.size := by omega
  have sw5 : w.heap.size < w5.heap.size := by omega
  go_wp2_with fail
  refine (c_laws_toToleranceS _ _ _ _ (Sl_Tolerance.now (by assumption) (by repeat (first | (with_reducible exact Below.refl _ _) | (with_reducible refine ext_alloc ?_) | ((with_reducible refine ext_setCell ?_ ?_); focus (simp; (try omega))) | (with_reducible refine below_drewN ?_ _) | (with_reducible refine Below.drew ?_) | (with_reducible (apply ext_step; assumption))))) (by omega)).mono ?_
  rintro e w6 ⟨B6, b6, rfl, r6, hb⟩
  (first | (have hcu2 := Cum.join hcu hb; (try clear hcu); (try clear hc); (try clear hfz); (try clear hsz); (try clear hs0); (try clear hs1); (try clear hs2); (try clear hs3); (try clear hs4); ) | have hcu2 := Cum.mk hb); have hcu := hcu2; clear hcu2; obtain ⟨hc, hfz⟩ := bcell hcu.h; have hsz := hcu.h.size; (try simp at hsz); (try have hs0 := lt_of_succ_le hsz); (try (have hs1 := lt_pred hsz; (try (have hs2 := lt_pred hs1; (try (have hs3 := lt_pred hs2; (try have hs4 := lt_pred hs3)))))))
  have st6 := hb.size
  (try simp at st6)
  have su6 : w.heap.size + 1 + 1 < w6.heap.size := by omega
  have sv6 : w.heap.size + 1 < w6.heap.size := by omega
  have sw6 : w.heap.size < w6.heap.size := by omega
  go_wp2_with fail
  exact bodyPost_ret (v := .agg #[.string d.name, .slice B1 d.labels.length b1, .int .i64 d.cpu, .int .i64 d.mem, .int .i64 d.rank, .slice B5 d.needs.length b5, .slice B6 d.tolerances.length b6]) (by simp only [results, Try.results31]; go_simp) rfl ⟨[.string d.name, .slice B1 d.labels.length b1, .int .i64 d.cpu, .int .i64 d.mem, .int .i64 d.rank, .slice B5 d.needs.length b5, .slice B6 d.tolerances.length b6], rfl, ⟨_, _, _, rfl, a0, SlOf.keep r1 (by repeat (first | (with_reducible exact Same.refl _ _ _) | ((with_reducible refine same_setCell ?_ ?_); focus (simp; (try omega))) | ((with_reducible refine same_alloc ?_ ?_); focus (simp; (try omega))) | (with_reducible refine same_drewN ?_ _) | ((with_reducible (apply same_step; assumption)); focus (simp; (try omega))))) (by simp; try omega) (by simp; try omega) (fun _ _ _ h => h), a2, a3, a4, SlOf.keep r5 (by repeat (first | (with_reducible exact Same.refl _ _ _) | ((with_reducible refine same_setCell ?_ ?_); focus (simp; (try omega))) | ((with_reducible refine same_alloc ?_ ?_); focus (simp; (try omega))) | (with_reducible refine same_drewN ?_ _) | ((with_reducible (apply same_step; assumption)); focus (simp; (try omega))))) (by simp; try omega) (by simp; try omega) (fun _ _ _ h => h.keep (by repeat (first | (with_reducible exact Same.refl _ _ _) | ((with_reducible refine same_setCell ?_ ?_); focus (simp; (try omega))) | ((with_reducible refine same_alloc ?_ ?_); focus (simp; (try omega))) | (with_reducible refine same_drewN ?_ _) | ((with_reducible (apply same_step; assumption)); focus (simp; (try omega))))) (by simp; try omega) (by simp; try omega)), SlOf.keep r6 (by repeat (first | (with_reducible exact Same.refl _ _ _) | ((with_reducible refine same_setCell ?_ ?_); focus (simp; (try omega))) | ((with_reducible refine same_alloc ?_ ?_); focus (simp; (try omega))) | (with_reducible refine same_drewN ?_ _) | ((with_reducible (apply same_step; assumption)); focus (simp; (try omega))))) (by simp; try omega) (by simp; try omega) (fun _ _ _ h => h)⟩, (by repeat (first | (with_reducible exact Below.refl _ _) | (with_reducible refine ext_alloc ?_) | ((with_reducible refine ext_setCell ?_ ?_); focus (simp; (try omega))) | (with_reducible refine below_drewN ?_ _) | (with_reducible refine Below.drew ?_) | (with_reducible (apply ext_step; assumption))))⟩
theorem c_laws_eqPod (d : Pod) (cs cs' : List Value) (w : World) (lo lo' : Nat) (h : C_Pod lo w.heap.size w d cs) (h' : C_Pod lo' w.heap.size w d cs') :
    Calls Try.prog 33 #[.agg cs.toArray, .agg cs'.toArray] w fun e w' => e = .returned (.bool true) ∧ Below w.heap.size w w' := by
  obtain ⟨v1, v5, v6, rfl, a0, a1, a2, a3, a4, a5, a6⟩ := h
  obtain ⟨A1, c1, rfl⟩ := a1.form
  obtain ⟨A5, c5, rfl⟩ := a5.form
  obtain ⟨A6, c6, rfl⟩ := a6.form
  unfold I64 at a2
  unfold I64 at a3
  unfold I64 at a4
  obtain ⟨zv1, zv5, zv6, rfl, za0, za1, za2, za3, za4, za5, za6⟩ := h'
  obtain ⟨zA1, zc1, rfl⟩ := za1.form
  obtain ⟨zA5, zc5, rfl⟩ := za5.form
  obtain ⟨zA6, zc6, rfl⟩ := za6.form
  unfold I64 at za2
  unfold I64 at za3
  unfold I64 at za4
  go_enter Try.func33, Try.ntmps33
  go_wp2_with (first | (go_at_call 74; refine (c_laws_eqLabelS _ _ _ _ _ _ (Sl_Label.now (by assumption) (by repeat (first | (with_reducible exact Below.refl _ _) | (with_reducible refine ext_alloc ?_) | ((with_reducible refine ext_setCell ?_ ?_); focus (simp; (try omega))) | (with_reducible refine below_drewN ?_ _) | (with_reducible refine Below.drew ?_) | (with_reducible (apply ext_step; assumption))))) (Sl_Label.now (by assumption) (by repeat (first | (with_reducible exact Below.refl _ _) | (with_reducible refine ext_alloc ?_) | ((with_reducible refine ext_setCell ?_ ?_); focus (simp; (try omega))) | (with_reducible refine below_drewN ?_ _) | (with_reducible refine Below.drew ?_) | (with_reducible (apply ext_step; assumption)))))).mono ?_; rintro e w1 ⟨rfl, hb⟩; (first | (have hcu2 := Cum.join hcu hb; (try clear hcu); (try clear hc); (try clear hfz); (try clear hsz); (try clear hs0); (try clear hs1); (try clear hs2); (try clear hs3); (try clear hs4); ) | have hcu2 := Cum.mk hb); have hcu := hcu2; clear hcu2; obtain ⟨hc, hfz⟩ := bcell hcu.h; have hsz := hcu.h.size; (try simp at hsz); (try have hs0 := lt_of_succ_le hsz); (try (have hs1 := lt_pred hsz; (try (have hs2 := lt_pred hs1; (try (have hs3 := lt_pred hs2; (try have hs4 := lt_pred hs3)))))))) | (go_at_call 75; refine (c_laws_eqNeedS _ _ _ _ _ _ (Sl_Need.now (by assumption) (by repeat (first | (with_reducible exact Below.refl _ _) | (with_reducible refine ext_alloc ?_) | ((with_reducible refine ext_setCell ?_ ?_); focus (simp; (try omega))) | (with_reducible refine below_drewN ?_ _) | (with_reducible refine Below.drew ?_) | (with_reducible (apply ext_step; assumption))))) (Sl_Need.now (by assumption) (by repeat (first | (with_reducible exact Below.refl _ _) | (with_reducible refine ext_alloc ?_) | ((with_reducible refine ext_setCell ?_ ?_); focus (simp; (try omega))) | (with_reducible refine below_drewN ?_ _) | (with_reducible refine Below.drew ?_) | (with_reducible (apply ext_step; assumption)))))).mono ?_; rintro e w1 ⟨rfl, hb⟩; (first | (have hcu2 := Cum.join hcu hb; (try clear hcu); (try clear hc); (try clear hfz); (try clear hsz); (try clear hs0); (try clear hs1); (try clear hs2); (try clear hs3); (try clear hs4); ) | have hcu2 := Cum.mk hb); have hcu := hcu2; clear hcu2; obtain ⟨hc, hfz⟩ := bcell hcu.h; have hsz := hcu.h.size; (try simp at hsz); (try have hs0 := lt_of_succ_le hsz); (try (have hs1 := lt_pred hsz; (try (have hs2 := lt_pred hs1; (try (have hs3 := lt_pred hs2; (try have hs4 := lt_pred hs3)))))))) | (go_at_call 76; refine (c_laws_eqToleranceS _ _ _ _ _ _ (Sl_Tolerance.now (by assumption) (by repeat (first | (with_reducible exact Below.refl _ _) | (with_reducible refine ext_alloc ?_) | ((with_reducible refine ext_setCell ?_ ?_); focus (simp; (try omega))) | (with_reducible refine below_drewN ?_ _) | (with_reducible refine Below.drew ?_) | (with_reducible (apply ext_step; assumption))))) (Sl_Tolerance.now (by assumption) (by repeat (first | (with_reducible exact Below.refl _ _) | (with_reducible refine ext_alloc ?_) | ((with_reducible refine ext_setCell ?_ ?_); focus (simp; (try omega))) | (with_reducible refine below_drewN ?_ _) | (with_reducible refine Below.drew ?_) | (with_reducible (apply ext_step; assumption)))))).mono ?_; rintro e w1 ⟨rfl, hb⟩; (first | (have hcu2 := Cum.join hcu hb; (try clear hcu); (try clear hc); (try clear hfz); (try clear hsz); (try clear hs0); (try clear hs1); (try clear hs2); (try clear hs3); (try clear hs4); ) | have hcu2 := Cum.mk hb); have hcu := hcu2; clear hcu2; obtain ⟨hc, hfz⟩ := bcell hcu.h; have hsz := hcu.h.size; (try simp at hsz); (try have hs0 := lt_of_succ_le hsz); (try (have hs1 := lt_pred hsz; (try (have hs2 := lt_pred hs1; (try (have hs3 := lt_pred hs2; (try have hs4 := lt_pred hs3)))))))))
  go_ret
  exact ⟨rfl, (by repeat (first | (with_reducible exact Below.refl _ _) | (with_reducible refine ext_alloc ?_) | ((with_reducible refine ext_setCell ?_ ?_); focus (simp; (try omega))) | (with_reducible refine below_drewN ?_ _) | (with_reducible refine Below.drew ?_) | (with_reducible (apply ext_step; assumption))))⟩
theorem c_laws_szPodS (l : List Pod) (v : Value) (left : Int) (w : World) (lo : Nat) (hs : Sl_Pod lo w.heap.size w l v) (h3 : 0 ≤ left) (h4 : left ≤ 1048576) :
    Calls Try.prog 24 #[v, .int .i64 left] w fun e w' => e = .returned (.int .i64 (szI left (nL nPod l))) ∧ Below w.heap.size w w' := by
  obtain ⟨A, c, rfl, hlc, hc, hA⟩ := hs
  by_cases hlt : left - l.length < 0
  · have Hf := Lib.hid (show szI left (nL nPod l) = -1 by rw [nL_def]; unfold szI; rw [if_neg (by omega)])
    go_enter Try.func24, Try.ntmps24
    go_wp2_with fail
    go_ret
    exact ⟨ret_int Hf.out.symm, (by repeat (first | (with_reducible exact Below.refl _ _) | (with_reducible refine ext_alloc ?_) | ((with_reducible refine ext_setCell ?_ ?_); focus (simp; (try omega))) | (with_reducible refine below_drewN ?_ _) | (with_reducible refine Below.drew ?_) | (with_reducible (apply ext_step; assumption))))⟩
  · go_enter Try.func24, Try.ntmps24
    go_wp2_with fail
    go_loopw [1, 5] (fun x i wr => ∃ k : Nat, k ≤ l.length ∧ i = .int .i64 k ∧ x = .int .i64 (left - l.length - szL nPod (l.take k)) ∧ 0 ≤ left - l.length - szL nPod (l.take k) ∧ Below w.heap.size w wr) (fun _ i _ => l.length - (intOf i).toNat)
    case atStart => exact ⟨0, Nat.zero_le _, rfl, by simp [szL], by simp [szL]; omega, (by repeat (first | (with_reducible exact Below.refl _ _) | (with_reducible refine ext_alloc ?_) | ((with_reducible refine ext_setCell ?_ ?_); focus (simp; (try omega))) | (with_reducible refine below_drewN ?_ _) | (with_reducible refine Below.drew ?_) | (with_reducible (apply ext_step; assumption))))⟩
    case round =>
      obtain ⟨k, hk, rfl, rfl, hge, hbr⟩ := hrel
      by_cases hlt : k < l.length
      · obtain ⟨b, o, rfl, -, hb2, hcell⟩ := hA (by omega)
        obtain ⟨d, hd⟩ := exists_at hlt
        obtain ⟨cs, -, hcs, hC⟩ := hcell k d hd
        have hC' := hC
        obtain ⟨ev1, ev5, ev6, rfl, ea0, ea1, ea2, ea3, ea4, ea5, ea6⟩ := hC'
        obtain ⟨eA1, ec1, rfl⟩ := ea1.form
        obtain ⟨eA5, ec5, rfl⟩ := ea5.form
        obtain ⟨eA6, ec6, rfl⟩ := ea6.form
        have hc0 := (hbr.cell (p := ⟨b, o + k * 7 + 0, none⟩) (by simp; omega)).trans (hcs 0 (by omega))
        simp at hc0
        have hc1 := (hbr.cell (p := ⟨b, o + k * 7 + 1, none⟩) (by simp; omega)).trans (hcs 1 (by omega))
        simp at hc1
        have hc2 := (hbr.cell (p := ⟨b, o + k * 7 + 2, none⟩) (by simp; omega)).trans (hcs 2 (by omega))
        simp at hc2
        have hc3 := (hbr.cell (p := ⟨b, o + k * 7 + 3, none⟩) (by simp; omega)).trans (hcs 3 (by omega))
        simp at hc3
        have hc4 := (hbr.cell (p := ⟨b, o + k * 7 + 4, none⟩) (by simp; omega)).trans (hcs 4 (by omega))
        simp at hc4
        have hc5 := (hbr.cell (p := ⟨b, o + k * 7 + 5, none⟩) (by simp; omega)).trans (hcs 5 (by omega))
        simp at hc5
        have hc6 := (hbr.cell (p := ⟨b, o + k * 7 + 6, none⟩) (by simp; omega)).trans (hcs 6 (by omega))
        simp at hc6
        clear hcs hcell hA
        have Hs := Lib.hid (szL_take_succ nPod l k d hd)
        have hle := szL_take_le nPod l (k+1)
        by_cases hneg : left - l.length - szL nPod (l.take k) - nPod d < 0
        · have hz : szI (left - l.length - szL nPod (l.take k)) (nPod d) = -1 := szI_neg (by omega)
          have Hf := Lib.hid (show szI left (nL nPod l) = -1 by rw [nL_def]; unfold szI; have := Hs.out; rw [if_neg (by omega)])
          go_wp2_with (go_at_call 29; refine (c_laws_szPod d _ _ _ _ (hC.now (by repeat (first | (with_reducible exact Below.refl _ _) | (with_reducible refine ext_alloc ?_) | ((with_reducible refine ext_setCell ?_ ?_); focus (simp; (try omega))) | (with_reducible refine below_drewN ?_ _) | (with_reducible refine Below.drew ?_) | (with_reducible (apply ext_step; assumption))))) (by omega) (by omega)).mono ?_; rintro e w1 ⟨rfl, hb⟩; (first | (have hcu2 := Cum.join hcu hb; (try clear hcu); (try clear hc); (try clear hfz); (try clear hsz); (try clear hs0); (try clear hs1); (try clear hs2); (try clear hs3); (try clear hs4); ) | have hcu2 := Cum.mk hb); have hcu := hcu2; clear hcu2; obtain ⟨hc, hfz⟩ := bcell hcu.h; have hsz := hcu.h.size; (try simp at hsz); (try have hs0 := lt_of_succ_le hsz); (try (have hs1 := lt_pred hsz; (try (have hs2 := lt_pred hs1; (try (have hs3 := lt_pred hs2; (try have hs4 := lt_pred hs3))))))))
          go_ret
          exact ⟨ret_int Hf.out.symm, (by repeat (first | (with_reducible exact Below.refl _ _) | (with_reducible refine ext_alloc ?_) | ((with_reducible refine ext_setCell ?_ ?_); focus (simp; (try omega))) | (with_reducible refine below_drewN ?_ _) | (with_reducible refine Below.drew ?_) | (with_reducible (apply ext_step; assumption))))⟩
        · have hz : szI (left - l.length - szL nPod (l.take k)) (nPod d) = left - l.length - szL nPod (l.take k) - nPod d := szI_pos (by omega)
          go_wp2_with (go_at_call 29; refine (c_laws_szPod d _ _ _ _ (hC.now (by repeat (first | (with_reducible exact Below.refl _ _) | (with_reducible refine ext_alloc ?_) | ((with_reducible refine ext_setCell ?_ ?_); focus (simp; (try omega))) | (with_reducible refine below_drewN ?_ _) | (with_reducible refine Below.drew ?_) | (with_reducible (apply ext_step; assumption))))) (by omega) (by omega)).mono ?_; rintro e w1 ⟨rfl, hb⟩; (first | (have hcu2 := Cum.join hcu hb; (try clear hcu); (try clear hc); (try clear hfz); (try clear hsz); (try clear hs0); (try clear hs1); (try clear hs2); (try clear hs3); (try clear hs4); ) | have hcu2 := Cum.mk hb); have hcu := hcu2; clear hcu2; obtain ⟨hc, hfz⟩ := bcell hcu.h; have hsz := hcu.h.size; (try simp at hsz); (try have hs0 := lt_of_succ_le hsz); (try (have hs1 := lt_pred hsz; (try (have hs2 := lt_pred hs1; (try (have hs3 := lt_pred hs2; (try have hs4 := lt_pred hs3))))))))
          go_roundw
          case rel => exact ⟨k + 1, by omega, by go_num, by rw [Hs.out]; go_num, by rw [Hs.out]; omega, (by repeat (first | (with_reducible exact Below.refl _ _) | (with_reducible refine ext_alloc ?_) | ((with_reducible refine ext_setCell ?_ ?_); focus (simp; (try omega))) | (with_reducible refine below_drewN ?_ _) | (with_reducible refine Below.drew ?_) | (with_reducible (apply ext_step; assumption))))⟩
          case measure => simp [intOf]; omega
      · obtain rfl : k = l.length := by omega
        rw [List.take_length] at *
        have Hf := Lib.hid (show szI left (nL nPod l) = left - l.length - szL nPod l by rw [nL_def]; unfold szI; rw [if_pos (by omega)]; omega)
        clear hA
        go_wp2_with fail
        go_ret
        exact ⟨ret_int Hf.out.symm, (by repeat (first | (with_reducible exact Below.refl _ _) | (with_reducible refine ext_alloc ?_) | ((with_reducible refine ext_setCell ?_ ?_); focus (simp; (try omega))) | (with_reducible refine below_drewN ?_ _) | (with_reducible refine Below.drew ?_) | (with_reducible (apply ext_step; assumption))))⟩
theorem c_laws_toPodS (l : List Pod) (v : Value) (w : World) (lo : Nat) (hs : Sl_Pod lo w.heap.size w l v) (hn : nL nPod l ≤ 1048576) :
    Calls Try.prog 26 #[v] w fun e w' => ∃ A c, e = .returned (.slice A l.length c) ∧ Sl_Pod w.heap.size w'.heap.size w' l (.slice A l.length c) ∧ Below w.heap.size w w' := by
  obtain ⟨A, c, rfl, hlc, hc, hA⟩ := hs
  have hlen : l.length ≤ 1048576 := by have := nL_def nPod l; omega
  have hmk := run_make_slice (P := Try.prog) (z := .agg #[.string ⟨#[]⟩, .slice none 0 0, .int .i64 0, .int .i64 0, .int .i64 0, .slice none 0 0, .slice none 0 0]) (size := 7) (bytes := 112) Try.underlying50 (by kernel_rfl) l.length (by omega) (by omega)
  go_enter Try.func26, Try.ntmps26
  go_wp2_with fail
  go_loopw [4] (fun i wr => ∃ (k : Nat) (cs : Array Value), k ≤ l.length ∧ i = .int .i64 k ∧ Below w.heap.size w wr ∧ wr.heap[w.heap.size]? = some (.cells cs 65 (0, 0)) ∧ Part (C_Pod (w.heap.size + 1) wr.heap.size wr) 7 l k cs) (fun i _ => l.length - (intOf i).toNat)
  case atStart => exact ⟨0, _, Nat.zero_le _, rfl, (by repeat (first | (with_reducible exact Below.refl _ _) | (with_reducible refine ext_alloc ?_) | ((with_reducible refine ext_setCell ?_ ?_); focus (simp; (try omega))) | (with_reducible refine below_drewN ?_ _) | (with_reducible refine Below.drew ?_) | (with_reducible (apply ext_step; assumption)))), heap_alloc_new _ _, Part.zero (by simp [size_madeCells])⟩
  case round =>
    obtain ⟨k, cs, hk, rfl, hbr, hg, hp⟩ := hrel
    by_cases hlt : k < l.length
    · obtain ⟨b, o, rfl, -, hb2, hcell⟩ := hA (by omega)
      obtain ⟨d, hd⟩ := exists_at hlt
      obtain ⟨es, -, hcs, hC⟩ := hcell k d hd
      have hC' := hC
      obtain ⟨ev1, ev5, ev6, rfl, ea0, ea1, ea2, ea3, ea4, ea5, ea6⟩ := hC'
      obtain ⟨eA1, ec1, rfl⟩ := ea1.form
      obtain ⟨eA5, ec5, rfl⟩ := ea5.form
      obtain ⟨eA6, ec6, rfl⟩ := ea6.form
      have hc0 := (hbr.cell (p := ⟨b, o + k * 7 + 0, none⟩) (by simp; omega)).trans (hcs 0 (by omega))
      simp at hc0
      have hc1 := (hbr.cell (p := ⟨b, o + k * 7 + 1, none⟩) (by simp; omega)).trans (hcs 1 (by omega))
      simp at hc1
      have hc2 := (hbr.cell (p := ⟨b, o + k * 7 + 2, none⟩) (by simp; omega)).trans (hcs 2 (by omega))
      simp at hc2
      have hc3 := (hbr.cell (p := ⟨b, o + k * 7 + 3, none⟩) (by simp; omega)).trans (hcs 3 (by omega))
      simp at hc3
      have hc4 := (hbr.cell (p := ⟨b, o + k * 7 + 4, none⟩) (by simp; omega)).trans (hcs 4 (by omega))
      simp at hc4
      have hc5 := (hbr.cell (p := ⟨b, o + k * 7 + 5, none⟩) (by simp; omega)).trans (hcs 5 (by omega))
      simp at hc5
      have hc6 := (hbr.cell (p := ⟨b, o + k * 7 + 6, none⟩) (by simp; omega)).trans (hcs 6 (by omega))
      simp at hc6
      obtain ⟨x0, hx0⟩ := row_cell hg (o := k * 7 + 0) (by rw [hp.1]; omega)
      have hf0 := frozen_row hg (k * 7 + 0)
      rw [Nat.add_zero] at hx0 hf0
      obtain ⟨x1, hx1⟩ := row_cell hg (o := k * 7 + 1) (by rw [hp.1]; omega)
      have hf1 := frozen_row hg (k * 7 + 1)
      obtain ⟨x2, hx2⟩ := row_cell hg (o := k * 7 + 2) (by rw [hp.1]; omega)
      have hf2 := frozen_row hg (k * 7 + 2)
      obtain ⟨x3, hx3⟩ := row_cell hg (o := k * 7 + 3) (by rw [hp.1]; omega)
      have hf3 := frozen_row hg (k * 7 + 3)
      obtain ⟨x4, hx4⟩ := row_cell hg (o := k * 7 + 4) (by rw [hp.1]; omega)
      have hf4 := frozen_row hg (k * 7 + 4)
      obtain ⟨x5, hx5⟩ := row_cell hg (o := k * 7 + 5) (by rw [hp.1]; omega)
      have hf5 := frozen_row hg (k * 7 + 5)
      obtain ⟨x6, hx6⟩ := row_cell hg (o := k * 7 + 6) (by rw [hp.1]; omega)
      have hf6 := frozen_row hg (k * 7 + 6)
      have hgl := row_lt hg
      clear hcs hcell hA
      have hnd : nPod d ≤ 1048576 := by have := nL_def nPod l; have := szL_take_succ nPod l k d hd; have := szL_take_le nPod l (k+1); omega
      go_wp2_with fail
      refine (c_laws_toPod d _ _ _ (hC.now (by repeat (first | (with_reducible exact Below.refl _ _) | (with_reducible refine ext_alloc ?_) | ((with_reducible refine ext_setCell ?_ ?_); focus (simp; (try omega))) | (with_reducible refine below_drewN ?_ _) | (with_reducible refine Below.drew ?_) | (with_reducible (apply ext_step; assumption))))) hnd).mono ?_
      rintro e w1 ⟨cs1, rfl, hr1, hb⟩
      obtain ⟨fv1, fv5, fv6, rfl, fa0, fa1, fa2, fa3, fa4, fa5, fa6⟩ := hr1
      obtain ⟨fA1, fc1, rfl⟩ := fa1.form
      obtain ⟨fA5, fc5, rfl⟩ := fa5.form
      obtain ⟨fA6, fc6, rfl⟩ := fa6.form
      (first | (have hcu2 := Cum.join hcu hb; (try clear hcu); (try clear hc); (try clear hfz); (try clear hsz); (try clear hs0); (try clear hs1); (try clear hs2); (try clear hs3); (try clear hs4); ) | have hcu2 := Cum.mk hb); have hcu := hcu2; clear hcu2; obtain ⟨hc, hfz⟩ := bcell hcu.h; have hsz := hcu.h.size; (try simp at hsz); (try have hs0 := lt_of_succ_le hsz); (try (have hs1 := lt_pred hsz; (try (have hs2 := lt_pred hs1; (try (have hs3 := lt_pred hs2; (try have hs4 := lt_pred hs3)))))))
      go_wp2_with fail
      go_roundw
      case rel =>
        refine ⟨k + 1, putAt cs (k * 7) [.string d.name, .slice fA1 d.labels.length fc1, .int .i64 d.cpu, .int .i64 d.mem, .int .i64 d.rank, .slice fA5 d.needs.length fc5, .slice fA6 d.tolerances.length fc6], by omega, by go_num, (by repeat (first | (with_reducible exact Below.refl _ _) | (with_reducible refine ext_alloc ?_) | ((with_reducible refine ext_setCell ?_ ?_); focus (simp; (try omega))) | (with_reducible refine below_drewN ?_ _) | (with_reducible refine Below.drew ?_) | (with_reducible (apply ext_step; assumption)))), heap_putCells [.string d.name, .slice fA1 d.labels.length fc1, .int .i64 d.cpu, .int .i64 d.mem, .int .i64 d.rank, .slice fA5 d.needs.length fc5, .slice fA6 d.tolerances.length fc6] _ _ _ _ _ ((hb.block _ hgl).trans hg), ?_⟩
        refine Part.store (hp.mono (fun _ _ h => h.keep ((same_below hb).trans (same_putCells [.string d.name, .slice fA1 d.labels.length fc1, .int .i64 d.cpu, .int .i64 d.mem, .int .i64 d.rank, .slice fA5 d.needs.length fc5, .slice fA6 d.tolerances.length fc6] _ _ _ _ _ (.inl (by omega)))) (Nat.le_refl _) (Nat.le_trans hb.size (Nat.le_of_eq (size_putCells [.string d.name, .slice fA1 d.labels.length fc1, .int .i64 d.cpu, .int .i64 d.mem, .int .i64 d.rank, .slice fA5 d.needs.length fc5, .slice fA6 d.tolerances.length fc6] _ _ _).symm)))) hd rfl ?_
        have hK : C_Pod wr.heap.size w1.heap.size w1 d [.string d.name, .slice fA1 d.labels.length fc1, .int .i64 d.cpu, .int .i64 d.mem, .int .i64 d.rank, .slice fA5 d.needs.length fc5, .slice fA6 d.tolerances.length fc6] := ⟨_, _, _, rfl, fa0, fa1, fa2, fa3, fa4, fa5, fa6⟩
        exact hK.keep (same_putCells [.string d.name, .slice fA1 d.labels.length fc1, .int .i64 d.cpu, .int .i64 d.mem, .int .i64 d.rank, .slice fA5 d.needs.length fc5, .slice fA6 d.tolerances.length fc6] _ _ _ _ _ (.inl (by omega))) (by omega) (Nat.le_of_eq (size_putCells [.string d.name, .slice fA1 d.labels.length fc1, .int .i64 d.cpu, .int .i64 d.mem, .int .i64 d.rank, .slice fA5 d.needs.length fc5, .slice fA6 d.tolerances.length fc6] _ _ _).symm)
      case measure => simp [intOf]; omega
    · obtain rfl : k = l.length := by omega
      clear hA
      go_wp2_with fail
      go_ret
      exact ⟨_, _, rfl, SlOf.of_part (hp.mono (fun _ _ h => h.keep (Same.refl _ _ _) (by omega) (Nat.le_refl _))) hg (Nat.le_refl _) (row_lt hg) (Nat.le_refl _) (by omega), (by repeat (first | (with_reducible exact Below.refl _ _) | (with_reducible refine ext_alloc ?_) | ((with_reducible refine ext_setCell ?_ ?_); focus (simp; (try omega))) | (with_reducible refine below_drewN ?_ _) | (with_reducible refine Below.drew ?_) | (with_reducible (apply ext_step; assumption))))⟩
theorem c_laws_eqPodS (l : List Pod) (va vb : Value) (w : World) (lo lo' : Nat) (ha : Sl_Pod lo w.heap.size w l va) (hb : Sl_Pod lo' w.heap.size w l vb) :
    Calls Try.prog 28 #[va, vb] w fun e w' => e = .returned (.bool true) ∧ Below w.heap.size w w' := by
  obtain ⟨A, c, rfl, hlc, hc, hA⟩ := ha
  obtain ⟨B, c', rfl, hlc', hc', hB⟩ := hb
  go_enter Try.func28, Try.ntmps28
  go_wp2_with fail
  go_loopw [5] (fun i wr => ∃ k : Nat, k ≤ l.length ∧ i = .int .i64 k ∧ Below w.heap.size w wr) (fun i _ => l.length - (intOf i).toNat)
  case atStart => exact ⟨0, Nat.zero_le _, rfl, (by repeat (first | (with_reducible exact Below.refl _ _) | (with_reducible refine ext_alloc ?_) | ((with_reducible refine ext_setCell ?_ ?_); focus (simp; (try omega))) | (with_reducible refine below_drewN ?_ _) | (with_reducible refine Below.drew ?_) | (with_reducible (apply ext_step; assumption))))⟩
  case round =>
    obtain ⟨k, hk, rfl, hbr⟩ := hrel
    by_cases hlt : k < l.length
    · obtain ⟨b, o, rfl, -, hb2, hcell⟩ := hA (by omega)
      obtain ⟨b', o', rfl, -, hb2', hcell'⟩ := hB (by omega)
      obtain ⟨d, hd⟩ := exists_at hlt
      obtain ⟨es, -, hcs, hC⟩ := hcell k d hd
      obtain ⟨es', -, hcs', hD⟩ := hcell' k d hd
      have hC' := hC
      have hD' := hD
      obtain ⟨ev1, ev5, ev6, rfl, ea0, ea1, ea2, ea3, ea4, ea5, ea6⟩ := hC'
      obtain ⟨eA1, ec1, rfl⟩ := ea1.form
      obtain ⟨eA5, ec5, rfl⟩ := ea5.form
      obtain ⟨eA6, ec6, rfl⟩ := ea6.form
      obtain ⟨fv1, fv5, fv6, rfl, fa0, fa1, fa2, fa3, fa4, fa5, fa6⟩ := hD'
      obtain ⟨fA1, fc1, rfl⟩ := fa1.form
      obtain ⟨fA5, fc5, rfl⟩ := fa5.form
      obtain ⟨fA6, fc6, rfl⟩ := fa6.form
      have hc0 := (hbr.cell (p := ⟨b, o + k * 7 + 0, none⟩) (by simp; omega)).trans (hcs 0 (by omega))
      simp at hc0
      have hc1 := (hbr.cell (p := ⟨b, o + k * 7 + 1, none⟩) (by simp; omega)).trans (hcs 1 (by omega))
      simp at hc1
      have hc2 := (hbr.cell (p := ⟨b, o + k * 7 + 2, none⟩) (by simp; omega)).trans (hcs 2 (by omega))
      simp at hc2
      have hc3 := (hbr.cell (p := ⟨b, o + k * 7 + 3, none⟩) (by simp; omega)).trans (hcs 3 (by omega))
      simp at hc3
      have hc4 := (hbr.cell (p := ⟨b, o + k * 7 + 4, none⟩) (by simp; omega)).trans (hcs 4 (by omega))
      simp at hc4
      have hc5 := (hbr.cell (p := ⟨b, o + k * 7 + 5, none⟩) (by simp; omega)).trans (hcs 5 (by omega))
      simp at hc5
      have hc6 := (hbr.cell (p := ⟨b, o + k * 7 + 6, none⟩) (by simp; omega)).trans (hcs 6 (by omega))
      simp at hc6
      have hd0 := (hbr.cell (p := ⟨b', o' + k * 7 + 0, none⟩) (by simp; omega)).trans (hcs' 0 (by omega))
      simp at hd0
      have hd1 := (hbr.cell (p := ⟨b', o' + k * 7 + 1, none⟩) (by simp; omega)).trans (hcs' 1 (by omega))
      simp at hd1
      have hd2 := (hbr.cell (p := ⟨b', o' + k * 7 + 2, none⟩) (by simp; omega)).trans (hcs' 2 (by omega))
      simp at hd2
      have hd3 := (hbr.cell (p := ⟨b', o' + k * 7 + 3, none⟩) (by simp; omega)).trans (hcs' 3 (by omega))
      simp at hd3
      have hd4 := (hbr.cell (p := ⟨b', o' + k * 7 + 4, none⟩) (by simp; omega)).trans (hcs' 4 (by omega))
      simp at hd4
      have hd5 := (hbr.cell (p := ⟨b', o' + k * 7 + 5, none⟩) (by simp; omega)).trans (hcs' 5 (by omega))
      simp at hd5
      have hd6 := (hbr.cell (p := ⟨b', o' + k * 7 + 6, none⟩) (by simp; omega)).trans (hcs' 6 (by omega))
      simp at hd6
      have hk0 : (0 : Int) ≤ k := by omega
      have hk1 : (k : Int) < l.length := by omega
      have hbl : b < wr.heap.size := Nat.lt_of_lt_of_le hb2 hbr.size
      have hbl' : b' < wr.heap.size := Nat.lt_of_lt_of_le hb2' hbr.size
      clear hcs hcell hA hcs' hcell' hB hd
      go_wp2_with fail
      go_region_held3 (fun w' => Below (wr).heap.size (wr) w' ∧ (∀ xb xo, xb < (wr).heap.size → w'.cell? ⟨xb, xo, none⟩ = (wr).cell? ⟨xb, xo, none⟩)) (first | exact keep_drew _ | exact keep_ext (by assumption) (by assumption) | exact keep_same (by assumption) | exact keep_alloc (by assumption) _) (first | (go_at_call 33; refine (c_laws_eqPod d _ _ _ _ _ (hC.now (ext_trans hbr (by first | (with_reducible exact Below.refl _ _) | exact (keep_same (by assumption)).1))) (hD.now (ext_trans hbr (by first | (with_reducible exact Below.refl _ _) | exact (keep_same (by assumption)).1)))).mono ?_; rintro e w9 ⟨rfl, hb9⟩))
      (have hb := held_step (by assumption); (first | (have hcu2 := Cum.join hcu hb; (try clear hcu); (try clear hc); (try clear hfz); (try clear hsz); (try clear hs0); (try clear hs1); (try clear hs2); (try clear hs3); (try clear hs4); ) | have hcu2 := Cum.mk hb); have hcu := hcu2; clear hcu2; obtain ⟨hc, hfz⟩ := bcell hcu.h; have hsz := hcu.h.size; (try simp at hsz); (try have hs0 := lt_of_succ_le hsz); (try (have hs1 := lt_pred hsz; (try (have hs2 := lt_pred hs1; (try (have hs3 := lt_pred hs2; (try have hs4 := lt_pred hs3))))))))
      go_wp2_with fail
      go_roundw
      case rel => exact ⟨k + 1, by omega, by go_num, (by repeat (first | (with_reducible exact Below.refl _ _) | (with_reducible refine ext_alloc ?_) | ((with_reducible refine ext_setCell ?_ ?_); focus (simp; (try omega))) | (with_reducible refine below_drewN ?_ _) | (with_reducible refine Below.drew ?_) | (with_reducible (apply ext_step; assumption))))⟩
      case measure => simp [intOf]; omega
    · obtain rfl : k = l.length := by omega
      clear hA hB
      go_wp2_with fail
      go_ret
      exact ⟨rfl, (by repeat (first | (with_reducible exact Below.refl _ _) | (with_reducible refine ext_alloc ?_) | ((with_reducible refine ext_setCell ?_ ?_); focus (simp; (try omega))) | (with_reducible refine below_drewN ?_ _) | (with_reducible refine Below.drew ?_) | (with_reducible (apply ext_step; assumption))))⟩
end Go.Proofs.Yteacohdnaddofaa
