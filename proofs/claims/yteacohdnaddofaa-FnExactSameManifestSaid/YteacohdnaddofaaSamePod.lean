/- Contracts of SamePod. No conditions. Written by wip/tools/gensame.py. -/
import Derived.Test.YteacohdnaddofaaNeedEq
namespace Go.Proofs.Yteacohdnaddofaa
open Go.RowKit

def samePodB (a b : Pod) : Bool := (a.name.toList == b.name.toList) && eqL eqLab a.labels b.labels && (a.cpu == b.cpu) && (a.mem == b.mem) && (a.rank == b.rank) && eqL eqNd a.needs b.needs && eqL eqTol a.tolerances b.tolerances

set_option maxHeartbeats 1000000 in
theorem c_impl_SamePod (a b : Pod) (ca cb : List Value) (w : World) (lo lo' : Nat) (ha : C_Pod lo w.heap.size w a ca) (hb : C_Pod lo' w.heap.size w b cb) :
    Calls Try.prog 32 #[.agg ca.toArray, .agg cb.toArray] w fun e w' => e = .returned (.bool (samePodB a b)) ∧ Below w.heap.size w w' := by
  obtain ⟨v1, v5, v6, rfl, a0, a1, a2, a3, a4, a5, a6⟩ := ha
  obtain ⟨A1, c1, rfl⟩ := a1.form
  obtain ⟨A5, c5, rfl⟩ := a5.form
  obtain ⟨A, c, rfl⟩ := a6.form
  obtain ⟨u1, u5, u6, rfl, b0, b1, b2, b3, b4, b5, b6⟩ := hb
  obtain ⟨B1, d1, rfl⟩ := b1.form
  obtain ⟨B5, d5, rfl⟩ := b5.form
  obtain ⟨B, c', rfl⟩ := b6.form
  unfold I64 at a2 a3 a4 b2 b3 b4
  go_enter Try.func32, Try.ntmps32
  go_wp2_with (first | (go_at_call 71; refine (c_impl_SameLabels _ _ _ _ _ _ _ (Sl_Label.now (by assumption) (by repeat (first | (with_reducible exact Below.refl _ _) | (with_reducible refine ext_alloc ?_) | ((with_reducible refine ext_setCell ?_ ?_); focus (simp; (try omega))) | (with_reducible refine below_drewN ?_ _) | (with_reducible refine Below.drew ?_) | (with_reducible (apply ext_step; assumption))))) (Sl_Label.now (by assumption) (by repeat (first | (with_reducible exact Below.refl _ _) | (with_reducible refine ext_alloc ?_) | ((with_reducible refine ext_setCell ?_ ?_); focus (simp; (try omega))) | (with_reducible refine below_drewN ?_ _) | (with_reducible refine Below.drew ?_) | (with_reducible (apply ext_step; assumption)))))).mono ?_; rintro e w1 ⟨rfl, hb⟩; (first | (have hcu2 := Cum.join hcu hb; (try clear hcu); (try clear hc); (try clear hfz); (try clear hsz); (try clear hs0); (try clear hs1); (try clear hs2); (try clear hs3); (try clear hs4); ) | have hcu2 := Cum.mk hb); have hcu := hcu2; clear hcu2; obtain ⟨hc, hfz⟩ := bcell hcu.h; have hsz := hcu.h.size; (try simp at hsz); (try have hs0 := lt_of_succ_le hsz); (try (have hs1 := lt_pred hsz; (try (have hs2 := lt_pred hs1; (try (have hs3 := lt_pred hs2; (try have hs4 := lt_pred hs3)))))))) | (go_at_call 72; refine (c_impl_SameNeeds _ _ _ _ _ _ _ (Sl_Need.now (by assumption) (by repeat (first | (with_reducible exact Below.refl _ _) | (with_reducible refine ext_alloc ?_) | ((with_reducible refine ext_setCell ?_ ?_); focus (simp; (try omega))) | (with_reducible refine below_drewN ?_ _) | (with_reducible refine Below.drew ?_) | (with_reducible (apply ext_step; assumption))))) (Sl_Need.now (by assumption) (by repeat (first | (with_reducible exact Below.refl _ _) | (with_reducible refine ext_alloc ?_) | ((with_reducible refine ext_setCell ?_ ?_); focus (simp; (try omega))) | (with_reducible refine below_drewN ?_ _) | (with_reducible refine Below.drew ?_) | (with_reducible (apply ext_step; assumption)))))).mono ?_; rintro e w1 ⟨rfl, hb⟩; (first | (have hcu2 := Cum.join hcu hb; (try clear hcu); (try clear hc); (try clear hfz); (try clear hsz); (try clear hs0); (try clear hs1); (try clear hs2); (try clear hs3); (try clear hs4); ) | have hcu2 := Cum.mk hb); have hcu := hcu2; clear hcu2; obtain ⟨hc, hfz⟩ := bcell hcu.h; have hsz := hcu.h.size; (try simp at hsz); (try have hs0 := lt_of_succ_le hsz); (try (have hs1 := lt_pred hsz; (try (have hs2 := lt_pred hs1; (try (have hs3 := lt_pred hs2; (try have hs4 := lt_pred hs3)))))))) | (go_at_call 73; refine (c_Equal_Tolerance _ _ _ _ _ _ _ (Sl_Tolerance.now (by assumption) (by repeat (first | (with_reducible exact Below.refl _ _) | (with_reducible refine ext_alloc ?_) | ((with_reducible refine ext_setCell ?_ ?_); focus (simp; (try omega))) | (with_reducible refine below_drewN ?_ _) | (with_reducible refine Below.drew ?_) | (with_reducible (apply ext_step; assumption))))) (Sl_Tolerance.now (by assumption) (by repeat (first | (with_reducible exact Below.refl _ _) | (with_reducible refine ext_alloc ?_) | ((with_reducible refine ext_setCell ?_ ?_); focus (simp; (try omega))) | (with_reducible refine below_drewN ?_ _) | (with_reducible refine Below.drew ?_) | (with_reducible (apply ext_step; assumption)))))).mono ?_; rintro e w1 ⟨rfl, hb⟩; (first | (have hcu2 := Cum.join hcu hb; (try clear hcu); (try clear hc); (try clear hfz); (try clear hsz); (try clear hs0); (try clear hs1); (try clear hs2); (try clear hs3); (try clear hs4); ) | have hcu2 := Cum.mk hb); have hcu := hcu2; clear hcu2; obtain ⟨hc, hfz⟩ := bcell hcu.h; have hsz := hcu.h.size; (try simp at hsz); (try have hs0 := lt_of_succ_le hsz); (try (have hs1 := lt_pred hsz; (try (have hs2 := lt_pred hs1; (try (have hs3 := lt_pred hs2; (try have hs4 := lt_pred hs3)))))))))
  all_goals
    go_ret
    exact ⟨ret_bool (by simp_all [samePodB]), (by repeat (first | (with_reducible exact Below.refl _ _) | (with_reducible refine ext_alloc ?_) | ((with_reducible refine ext_setCell ?_ ?_); focus (simp; (try omega))) | (with_reducible refine below_drewN ?_ _) | (with_reducible refine Below.drew ?_) | (with_reducible (apply ext_step; assumption))))⟩
set_option maxHeartbeats 2000000 in
theorem c_spec_SamePod (a b : Pod) (ca cb : List Value) (w : World) (lo lo' : Nat) (ha : C_Pod lo w.heap.size w a ca) (hb : C_Pod lo' w.heap.size w b cb) :
    Calls Try.prog 30 #[.agg ca.toArray, .agg cb.toArray] w fun e w' => e = .returned (.bool (samePodB a b)) ∧ Below w.heap.size w w' := by
  obtain ⟨v1, v5, v6, rfl, a0, a1, a2, a3, a4, a5, a6⟩ := ha
  obtain ⟨A1, c1, rfl⟩ := a1.form
  obtain ⟨A5, c5, rfl⟩ := a5.form
  obtain ⟨A, c, rfl⟩ := a6.form
  obtain ⟨u1, u5, u6, rfl, b0, b1, b2, b3, b4, b5, b6⟩ := hb
  obtain ⟨B1, d1, rfl⟩ := b1.form
  obtain ⟨B5, d5, rfl⟩ := b5.form
  obtain ⟨B, c', rfl⟩ := b6.form
  unfold I64 at a2 a3 a4 b2 b3 b4
  rcases hn : (a.name.toList == b.name.toList) with _ | _
  · have Hf := Lib.hid (show samePodB a b = false by simp [samePodB, hn])
    go_enter Try.func30, Try.ntmps30
    go_wp2_with (first | (go_at_call 66; refine (c_spec_SameLabels _ _ _ _ _ _ _ (Sl_Label.now (by assumption) (by repeat (first | (with_reducible exact Below.refl _ _) | (with_reducible refine ext_alloc ?_) | ((with_reducible refine ext_setCell ?_ ?_); focus (simp; (try omega))) | (with_reducible refine below_drewN ?_ _) | (with_reducible refine Below.drew ?_) | (with_reducible (apply ext_step; assumption))))) (Sl_Label.now (by assumption) (by repeat (first | (with_reducible exact Below.refl _ _) | (with_reducible refine ext_alloc ?_) | ((with_reducible refine ext_setCell ?_ ?_); focus (simp; (try omega))) | (with_reducible refine below_drewN ?_ _) | (with_reducible refine Below.drew ?_) | (with_reducible (apply ext_step; assumption)))))).mono ?_; rintro e w1 ⟨rfl, hb⟩; (first | (have hcu2 := Cum.join hcu hb; (try clear hcu); (try clear hc); (try clear hfz); (try clear hsz); (try clear hs0); (try clear hs1); (try clear hs2); (try clear hs3); (try clear hs4); ) | have hcu2 := Cum.mk hb); have hcu := hcu2; clear hcu2; obtain ⟨hc, hfz⟩ := bcell hcu.h; have hsz := hcu.h.size; (try simp at hsz); (try have hs0 := lt_of_succ_le hsz); (try (have hs1 := lt_pred hsz; (try (have hs2 := lt_pred hs1; (try (have hs3 := lt_pred hs2; (try have hs4 := lt_pred hs3)))))))) | (go_at_call 67; refine (c_spec_SameNeeds _ _ _ _ _ _ _ (Sl_Need.now (by assumption) (by repeat (first | (with_reducible exact Below.refl _ _) | (with_reducible refine ext_alloc ?_) | ((with_reducible refine ext_setCell ?_ ?_); focus (simp; (try omega))) | (with_reducible refine below_drewN ?_ _) | (with_reducible refine Below.drew ?_) | (with_reducible (apply ext_step; assumption))))) (Sl_Need.now (by assumption) (by repeat (first | (with_reducible exact Below.refl _ _) | (with_reducible refine ext_alloc ?_) | ((with_reducible refine ext_setCell ?_ ?_); focus (simp; (try omega))) | (with_reducible refine below_drewN ?_ _) | (with_reducible refine Below.drew ?_) | (with_reducible (apply ext_step; assumption)))))).mono ?_; rintro e w1 ⟨rfl, hb⟩; (first | (have hcu2 := Cum.join hcu hb; (try clear hcu); (try clear hc); (try clear hfz); (try clear hsz); (try clear hs0); (try clear hs1); (try clear hs2); (try clear hs3); (try clear hs4); ) | have hcu2 := Cum.mk hb); have hcu := hcu2; clear hcu2; obtain ⟨hc, hfz⟩ := bcell hcu.h; have hsz := hcu.h.size; (try simp at hsz); (try have hs0 := lt_of_succ_le hsz); (try (have hs1 := lt_pred hsz; (try (have hs2 := lt_pred hs1; (try (have hs3 := lt_pred hs2; (try have hs4 := lt_pred hs3)))))))))
    go_ret
    exact ⟨ret_bool Hf.out.symm, (by repeat (first | (with_reducible exact Below.refl _ _) | (with_reducible refine ext_alloc ?_) | ((with_reducible refine ext_setCell ?_ ?_); focus (simp; (try omega))) | (with_reducible refine below_drewN ?_ _) | (with_reducible refine Below.drew ?_) | (with_reducible (apply ext_step; assumption))))⟩
  · skip
    rcases hl : eqL eqLab a.labels b.labels with _ | _
    · have Hf := Lib.hid (show samePodB a b = false by simp [samePodB, hn, hl])
      go_enter Try.func30, Try.ntmps30
      go_wp2_with (first | (go_at_call 66; refine (c_spec_SameLabels _ _ _ _ _ _ _ (Sl_Label.now (by assumption) (by repeat (first | (with_reducible exact Below.refl _ _) | (with_reducible refine ext_alloc ?_) | ((with_reducible refine ext_setCell ?_ ?_); focus (simp; (try omega))) | (with_reducible refine below_drewN ?_ _) | (with_reducible refine Below.drew ?_) | (with_reducible (apply ext_step; assumption))))) (Sl_Label.now (by assumption) (by repeat (first | (with_reducible exact Below.refl _ _) | (with_reducible refine ext_alloc ?_) | ((with_reducible refine ext_setCell ?_ ?_); focus (simp; (try omega))) | (with_reducible refine below_drewN ?_ _) | (with_reducible refine Below.drew ?_) | (with_reducible (apply ext_step; assumption)))))).mono ?_; rintro e w1 ⟨rfl, hb⟩; (first | (have hcu2 := Cum.join hcu hb; (try clear hcu); (try clear hc); (try clear hfz); (try clear hsz); (try clear hs0); (try clear hs1); (try clear hs2); (try clear hs3); (try clear hs4); ) | have hcu2 := Cum.mk hb); have hcu := hcu2; clear hcu2; obtain ⟨hc, hfz⟩ := bcell hcu.h; have hsz := hcu.h.size; (try simp at hsz); (try have hs0 := lt_of_succ_le hsz); (try (have hs1 := lt_pred hsz; (try (have hs2 := lt_pred hs1; (try (have hs3 := lt_pred hs2; (try have hs4 := lt_pred hs3)))))))) | (go_at_call 67; refine (c_spec_SameNeeds _ _ _ _ _ _ _ (Sl_Need.now (by assumption) (by repeat (first | (with_reducible exact Below.refl _ _) | (with_reducible refine ext_alloc ?_) | ((with_reducible refine ext_setCell ?_ ?_); focus (simp; (try omega))) | (with_reducible refine below_drewN ?_ _) | (with_reducible refine Below.drew ?_) | (with_reducible (apply ext_step; assumption))))) (Sl_Need.now (by assumption) (by repeat (first | (with_reducible exact Below.refl _ _) | (with_reducible refine ext_alloc ?_) | ((with_reducible refine ext_setCell ?_ ?_); focus (simp; (try omega))) | (with_reducible refine below_drewN ?_ _) | (with_reducible refine Below.drew ?_) | (with_reducible (apply ext_step; assumption)))))).mono ?_; rintro e w1 ⟨rfl, hb⟩; (first | (have hcu2 := Cum.join hcu hb; (try clear hcu); (try clear hc); (try clear hfz); (try clear hsz); (try clear hs0); (try clear hs1); (try clear hs2); (try clear hs3); (try clear hs4); ) | have hcu2 := Cum.mk hb); have hcu := hcu2; clear hcu2; obtain ⟨hc, hfz⟩ := bcell hcu.h; have hsz := hcu.h.size; (try simp at hsz); (try have hs0 := lt_of_succ_le hsz); (try (have hs1 := lt_pred hsz; (try (have hs2 := lt_pred hs1; (try (have hs3 := lt_pred hs2; (try have hs4 := lt_pred hs3)))))))))
      go_ret
      exact ⟨ret_bool Hf.out.symm, (by repeat (first | (with_reducible exact Below.refl _ _) | (with_reducible refine ext_alloc ?_) | ((with_reducible refine ext_setCell ?_ ?_); focus (simp; (try omega))) | (with_reducible refine below_drewN ?_ _) | (with_reducible refine Below.drew ?_) | (with_reducible (apply ext_step; assumption))))⟩
    · skip
      rcases hcp : (a.cpu == b.cpu) with _ | _
      · have Hf := Lib.hid (show samePodB a b = false by simp [samePodB, hn, hl, hcp])
        have zhcp : (a.cpu != b.cpu) = true := by simp only [bne, hcp]; rfl
        go_enter Try.func30, Try.ntmps30
        go_wp2_with (first | (go_at_call 66; refine (c_spec_SameLabels _ _ _ _ _ _ _ (Sl_Label.now (by assumption) (by repeat (first | (with_reducible exact Below.refl _ _) | (with_reducible refine ext_alloc ?_) | ((with_reducible refine ext_setCell ?_ ?_); focus (simp; (try omega))) | (with_reducible refine below_drewN ?_ _) | (with_reducible refine Below.drew ?_) | (with_reducible (apply ext_step; assumption))))) (Sl_Label.now (by assumption) (by repeat (first | (with_reducible exact Below.refl _ _) | (with_reducible refine ext_alloc ?_) | ((with_reducible refine ext_setCell ?_ ?_); focus (simp; (try omega))) | (with_reducible refine below_drewN ?_ _) | (with_reducible refine Below.drew ?_) | (with_reducible (apply ext_step; assumption)))))).mono ?_; rintro e w1 ⟨rfl, hb⟩; (first | (have hcu2 := Cum.join hcu hb; (try clear hcu); (try clear hc); (try clear hfz); (try clear hsz); (try clear hs0); (try clear hs1); (try clear hs2); (try clear hs3); (try clear hs4); ) | have hcu2 := Cum.mk hb); have hcu := hcu2; clear hcu2; obtain ⟨hc, hfz⟩ := bcell hcu.h; have hsz := hcu.h.size; (try simp at hsz); (try have hs0 := lt_of_succ_le hsz); (try (have hs1 := lt_pred hsz; (try (have hs2 := lt_pred hs1; (try (have hs3 := lt_pred hs2; (try have hs4 := lt_pred hs3)))))))) | (go_at_call 67; refine (c_spec_SameNeeds _ _ _ _ _ _ _ (Sl_Need.now (by assumption) (by repeat (first | (with_reducible exact Below.refl _ _) | (with_reducible refine ext_alloc ?_) | ((with_reducible refine ext_setCell ?_ ?_); focus (simp; (try omega))) | (with_reducible refine below_drewN ?_ _) | (with_reducible refine Below.drew ?_) | (with_reducible (apply ext_step; assumption))))) (Sl_Need.now (by assumption) (by repeat (first | (with_reducible exact Below.refl _ _) | (with_reducible refine ext_alloc ?_) | ((with_reducible refine ext_setCell ?_ ?_); focus (simp; (try omega))) | (with_reducible refine below_drewN ?_ _) | (with_reducible refine Below.drew ?_) | (with_reducible (apply ext_step; assumption)))))).mono ?_; rintro e w1 ⟨rfl, hb⟩; (first | (have hcu2 := Cum.join hcu hb; (try clear hcu); (try clear hc); (try clear hfz); (try clear hsz); (try clear hs0); (try clear hs1); (try clear hs2); (try clear hs3); (try clear hs4); ) | have hcu2 := Cum.mk hb); have hcu := hcu2; clear hcu2; obtain ⟨hc, hfz⟩ := bcell hcu.h; have hsz := hcu.h.size; (try simp at hsz); (try have hs0 := lt_of_succ_le hsz); (try (have hs1 := lt_pred hsz; (try (have hs2 := lt_pred hs1; (try (have hs3 := lt_pred hs2; (try have hs4 := lt_pred hs3)))))))))
        go_ret
        exact ⟨ret_bool Hf.out.symm, (by repeat (first | (with_reducible exact Below.refl _ _) | (with_reducible refine ext_alloc ?_) | ((with_reducible refine ext_setCell ?_ ?_); focus (simp; (try omega))) | (with_reducible refine below_drewN ?_ _) | (with_reducible refine Below.drew ?_) | (with_reducible (apply ext_step; assumption))))⟩
      · skip
        have zhcp : (a.cpu != b.cpu) = false := by simp only [bne, hcp]; rfl
        rcases hm : (a.mem == b.mem) with _ | _
        · have Hf := Lib.hid (show samePodB a b = false by simp [samePodB, hn, hl, hcp, hm])
          have zhm : (a.mem != b.mem) = true := by simp only [bne, hm]; rfl
          go_enter Try.func30, Try.ntmps30
          go_wp2_with (first | (go_at_call 66; refine (c_spec_SameLabels _ _ _ _ _ _ _ (Sl_Label.now (by assumption) (by repeat (first | (with_reducible exact Below.refl _ _) | (with_reducible refine ext_alloc ?_) | ((with_reducible refine ext_setCell ?_ ?_); focus (simp; (try omega))) | (with_reducible refine below_drewN ?_ _) | (with_reducible refine Below.drew ?_) | (with_reducible (apply ext_step; assumption))))) (Sl_Label.now (by assumption) (by repeat (first | (with_reducible exact Below.refl _ _) | (with_reducible refine ext_alloc ?_) | ((with_reducible refine ext_setCell ?_ ?_); focus (simp; (try omega))) | (with_reducible refine below_drewN ?_ _) | (with_reducible refine Below.drew ?_) | (with_reducible (apply ext_step; assumption)))))).mono ?_; rintro e w1 ⟨rfl, hb⟩; (first | (have hcu2 := Cum.join hcu hb; (try clear hcu); (try clear hc); (try clear hfz); (try clear hsz); (try clear hs0); (try clear hs1); (try clear hs2); (try clear hs3); (try clear hs4); ) | have hcu2 := Cum.mk hb); have hcu := hcu2; clear hcu2; obtain ⟨hc, hfz⟩ := bcell hcu.h; have hsz := hcu.h.size; (try simp at hsz); (try have hs0 := lt_of_succ_le hsz); (try (have hs1 := lt_pred hsz; (try (have hs2 := lt_pred hs1; (try (have hs3 := lt_pred hs2; (try have hs4 := lt_pred hs3)))))))) | (go_at_call 67; refine (c_spec_SameNeeds _ _ _ _ _ _ _ (Sl_Need.now (by assumption) (by repeat (first | (with_reducible exact Below.refl _ _) | (with_reducible refine ext_alloc ?_) | ((with_reducible refine ext_setCell ?_ ?_); focus (simp; (try omega))) | (with_reducible refine below_drewN ?_ _) | (with_reducible refine Below.drew ?_) | (with_reducible (apply ext_step; assumption))))) (Sl_Need.now (by assumption) (by repeat (first | (with_reducible exact Below.refl _ _) | (with_reducible refine ext_alloc ?_) | ((with_reducible refine ext_setCell ?_ ?_); focus (simp; (try omega))) | (with_reducible refine below_drewN ?_ _) | (with_reducible refine Below.drew ?_) | (with_reducible (apply ext_step; assumption)))))).mono ?_; rintro e w1 ⟨rfl, hb⟩; (first | (have hcu2 := Cum.join hcu hb; (try clear hcu); (try clear hc); (try clear hfz); (try clear hsz); (try clear hs0); (try clear hs1); (try clear hs2); (try clear hs3); (try clear hs4); ) | have hcu2 := Cum.mk hb); have hcu := hcu2; clear hcu2; obtain ⟨hc, hfz⟩ := bcell hcu.h; have hsz := hcu.h.size; (try simp at hsz); (try have hs0 := lt_of_succ_le hsz); (try (have hs1 := lt_pred hsz; (try (have hs2 := lt_pred hs1; (try (have hs3 := lt_pred hs2; (try have hs4 := lt_pred hs3)))))))))
          go_ret
          exact ⟨ret_bool Hf.out.symm, (by repeat (first | (with_reducible exact Below.refl _ _) | (with_reducible refine ext_alloc ?_) | ((with_reducible refine ext_setCell ?_ ?_); focus (simp; (try omega))) | (with_reducible refine below_drewN ?_ _) | (with_reducible refine Below.drew ?_) | (with_reducible (apply ext_step; assumption))))⟩
        · skip
          have zhm : (a.mem != b.mem) = false := by simp only [bne, hm]; rfl
          rcases hsl : (a.rank == b.rank) with _ | _
          · have Hf := Lib.hid (show samePodB a b = false by simp [samePodB, hn, hl, hcp, hm, hsl])
            have zhsl : (a.rank != b.rank) = true := by simp only [bne, hsl]; rfl
            go_enter Try.func30, Try.ntmps30
            go_wp2_with (first | (go_at_call 66; refine (c_spec_SameLabels _ _ _ _ _ _ _ (Sl_Label.now (by assumption) (by repeat (first | (with_reducible exact Below.refl _ _) | (with_reducible refine ext_alloc ?_) | ((with_reducible refine ext_setCell ?_ ?_); focus (simp; (try omega))) | (with_reducible refine below_drewN ?_ _) | (with_reducible refine Below.drew ?_) | (with_reducible (apply ext_step; assumption))))) (Sl_Label.now (by assumption) (by repeat (first | (with_reducible exact Below.refl _ _) | (with_reducible refine ext_alloc ?_) | ((with_reducible refine ext_setCell ?_ ?_); focus (simp; (try omega))) | (with_reducible refine below_drewN ?_ _) | (with_reducible refine Below.drew ?_) | (with_reducible (apply ext_step; assumption)))))).mono ?_; rintro e w1 ⟨rfl, hb⟩; (first | (have hcu2 := Cum.join hcu hb; (try clear hcu); (try clear hc); (try clear hfz); (try clear hsz); (try clear hs0); (try clear hs1); (try clear hs2); (try clear hs3); (try clear hs4); ) | have hcu2 := Cum.mk hb); have hcu := hcu2; clear hcu2; obtain ⟨hc, hfz⟩ := bcell hcu.h; have hsz := hcu.h.size; (try simp at hsz); (try have hs0 := lt_of_succ_le hsz); (try (have hs1 := lt_pred hsz; (try (have hs2 := lt_pred hs1; (try (have hs3 := lt_pred hs2; (try have hs4 := lt_pred hs3)))))))) | (go_at_call 67; refine (c_spec_SameNeeds _ _ _ _ _ _ _ (Sl_Need.now (by assumption) (by repeat (first | (with_reducible exact Below.refl _ _) | (with_reducible refine ext_alloc ?_) | ((with_reducible refine ext_setCell ?_ ?_); focus (simp; (try omega))) | (with_reducible refine below_drewN ?_ _) | (with_reducible refine Below.drew ?_) | (with_reducible (apply ext_step; assumption))))) (Sl_Need.now (by assumption) (by repeat (first | (with_reducible exact Below.refl _ _) | (with_reducible refine ext_alloc ?_) | ((with_reducible refine ext_setCell ?_ ?_); focus (simp; (try omega))) | (with_reducible refine below_drewN ?_ _) | (with_reducible refine Below.drew ?_) | (with_reducible (apply ext_step; assumption)))))).mono ?_; rintro e w1 ⟨rfl, hb⟩; (first | (have hcu2 := Cum.join hcu hb; (try clear hcu); (try clear hc); (try clear hfz); (try clear hsz); (try clear hs0); (try clear hs1); (try clear hs2); (try clear hs3); (try clear hs4); ) | have hcu2 := Cum.mk hb); have hcu := hcu2; clear hcu2; obtain ⟨hc, hfz⟩ := bcell hcu.h; have hsz := hcu.h.size; (try simp at hsz); (try have hs0 := lt_of_succ_le hsz); (try (have hs1 := lt_pred hsz; (try (have hs2 := lt_pred hs1; (try (have hs3 := lt_pred hs2; (try have hs4 := lt_pred hs3)))))))))
            go_ret
            exact ⟨ret_bool Hf.out.symm, (by repeat (first | (with_reducible exact Below.refl _ _) | (with_reducible refine ext_alloc ?_) | ((with_reducible refine ext_setCell ?_ ?_); focus (simp; (try omega))) | (with_reducible refine below_drewN ?_ _) | (with_reducible refine Below.drew ?_) | (with_reducible (apply ext_step; assumption))))⟩
          · skip
            have zhsl : (a.rank != b.rank) = false := by simp only [bne, hsl]; rfl
            rcases hnd : eqL eqNd a.needs b.needs with _ | _
            · have Hf := Lib.hid (show samePodB a b = false by simp [samePodB, hn, hl, hcp, hm, hsl, hnd])
              go_enter Try.func30, Try.ntmps30
              go_wp2_with (first | (go_at_call 66; refine (c_spec_SameLabels _ _ _ _ _ _ _ (Sl_Label.now (by assumption) (by repeat (first | (with_reducible exact Below.refl _ _) | (with_reducible refine ext_alloc ?_) | ((with_reducible refine ext_setCell ?_ ?_); focus (simp; (try omega))) | (with_reducible refine below_drewN ?_ _) | (with_reducible refine Below.drew ?_) | (with_reducible (apply ext_step; assumption))))) (Sl_Label.now (by assumption) (by repeat (first | (with_reducible exact Below.refl _ _) | (with_reducible refine ext_alloc ?_) | ((with_reducible refine ext_setCell ?_ ?_); focus (simp; (try omega))) | (with_reducible refine below_drewN ?_ _) | (with_reducible refine Below.drew ?_) | (with_reducible (apply ext_step; assumption)))))).mono ?_; rintro e w1 ⟨rfl, hb⟩; (first | (have hcu2 := Cum.join hcu hb; (try clear hcu); (try clear hc); (try clear hfz); (try clear hsz); (try clear hs0); (try clear hs1); (try clear hs2); (try clear hs3); (try clear hs4); ) | have hcu2 := Cum.mk hb); have hcu := hcu2; clear hcu2; obtain ⟨hc, hfz⟩ := bcell hcu.h; have hsz := hcu.h.size; (try simp at hsz); (try have hs0 := lt_of_succ_le hsz); (try (have hs1 := lt_pred hsz; (try (have hs2 := lt_pred hs1; (try (have hs3 := lt_pred hs2; (try have hs4 := lt_pred hs3)))))))) | (go_at_call 67; refine (c_spec_SameNeeds _ _ _ _ _ _ _ (Sl_Need.now (by assumption) (by repeat (first | (with_reducible exact Below.refl _ _) | (with_reducible refine ext_alloc ?_) | ((with_reducible refine ext_setCell ?_ ?_); focus (simp; (try omega))) | (with_reducible refine below_drewN ?_ _) | (with_reducible refine Below.drew ?_) | (with_reducible (apply ext_step; assumption))))) (Sl_Need.now (by assumption) (by repeat (first | (with_reducible exact Below.refl _ _) | (with_reducible refine ext_alloc ?_) | ((with_reducible refine ext_setCell ?_ ?_); focus (simp; (try omega))) | (with_reducible refine below_drewN ?_ _) | (with_reducible refine Below.drew ?_) | (with_reducible (apply ext_step; assumption)))))).mono ?_; rintro e w1 ⟨rfl, hb⟩; (first | (have hcu2 := Cum.join hcu hb; (try clear hcu); (try clear hc); (try clear hfz); (try clear hsz); (try clear hs0); (try clear hs1); (try clear hs2); (try clear hs3); (try clear hs4); ) | have hcu2 := Cum.mk hb); have hcu := hcu2; clear hcu2; obtain ⟨hc, hfz⟩ := bcell hcu.h; have hsz := hcu.h.size; (try simp at hsz); (try have hs0 := lt_of_succ_le hsz); (try (have hs1 := lt_pred hsz; (try (have hs2 := lt_pred hs1; (try (have hs3 := lt_pred hs2; (try have hs4 := lt_pred hs3)))))))))
              go_ret
              exact ⟨ret_bool Hf.out.symm, (by repeat (first | (with_reducible exact Below.refl _ _) | (with_reducible refine ext_alloc ?_) | ((with_reducible refine ext_setCell ?_ ?_); focus (simp; (try omega))) | (with_reducible refine below_drewN ?_ _) | (with_reducible refine Below.drew ?_) | (with_reducible (apply ext_step; assumption))))⟩
            · skip
              by_cases hlen : a.tolerances.length = b.tolerances.length
              · have hz : ((a.tolerances.length : Int) != b.tolerances.length) = false := by simp [hlen]
                have Hlen := Lib.hid hlen
                clear hlen
                have Hf0 := Lib.hid (show samePodB a b = eqL eqTol a.tolerances b.tolerances by simp [samePodB, hn, hl, hcp, hm, hsl, hnd])
                obtain ⟨A', c', hv, hlc, hc', hA⟩ := a6
                obtain ⟨rfl, -, rfl⟩ := hv
                obtain ⟨B', d', hv, hld, hd', hB⟩ := b6
                obtain ⟨rfl, -, rfl⟩ := hv
                go_enter Try.func30, Try.ntmps30
                go_wp2_with (first | (go_at_call 66; refine (c_spec_SameLabels _ _ _ _ _ _ _ (Sl_Label.now (by assumption) (by repeat (first | (with_reducible exact Below.refl _ _) | (with_reducible refine ext_alloc ?_) | ((with_reducible refine ext_setCell ?_ ?_); focus (simp; (try omega))) | (with_reducible refine below_drewN ?_ _) | (with_reducible refine Below.drew ?_) | (with_reducible (apply ext_step; assumption))))) (Sl_Label.now (by assumption) (by repeat (first | (with_reducible exact Below.refl _ _) | (with_reducible refine ext_alloc ?_) | ((with_reducible refine ext_setCell ?_ ?_); focus (simp; (try omega))) | (with_reducible refine below_drewN ?_ _) | (with_reducible refine Below.drew ?_) | (with_reducible (apply ext_step; assumption)))))).mono ?_; rintro e w1 ⟨rfl, hb⟩; (first | (have hcu2 := Cum.join hcu hb; (try clear hcu); (try clear hc); (try clear hfz); (try clear hsz); (try clear hs0); (try clear hs1); (try clear hs2); (try clear hs3); (try clear hs4); ) | have hcu2 := Cum.mk hb); have hcu := hcu2; clear hcu2; obtain ⟨hc, hfz⟩ := bcell hcu.h; have hsz := hcu.h.size; (try simp at hsz); (try have hs0 := lt_of_succ_le hsz); (try (have hs1 := lt_pred hsz; (try (have hs2 := lt_pred hs1; (try (have hs3 := lt_pred hs2; (try have hs4 := lt_pred hs3)))))))) | (go_at_call 67; refine (c_spec_SameNeeds _ _ _ _ _ _ _ (Sl_Need.now (by assumption) (by repeat (first | (with_reducible exact Below.refl _ _) | (with_reducible refine ext_alloc ?_) | ((with_reducible refine ext_setCell ?_ ?_); focus (simp; (try omega))) | (with_reducible refine below_drewN ?_ _) | (with_reducible refine Below.drew ?_) | (with_reducible (apply ext_step; assumption))))) (Sl_Need.now (by assumption) (by repeat (first | (with_reducible exact Below.refl _ _) | (with_reducible refine ext_alloc ?_) | ((with_reducible refine ext_setCell ?_ ?_); focus (simp; (try omega))) | (with_reducible refine below_drewN ?_ _) | (with_reducible refine Below.drew ?_) | (with_reducible (apply ext_step; assumption)))))).mono ?_; rintro e w1 ⟨rfl, hb⟩; (first | (have hcu2 := Cum.join hcu hb; (try clear hcu); (try clear hc); (try clear hfz); (try clear hsz); (try clear hs0); (try clear hs1); (try clear hs2); (try clear hs3); (try clear hs4); ) | have hcu2 := Cum.mk hb); have hcu := hcu2; clear hcu2; obtain ⟨hc, hfz⟩ := bcell hcu.h; have hsz := hcu.h.size; (try simp at hsz); (try have hs0 := lt_of_succ_le hsz); (try (have hs1 := lt_pred hsz; (try (have hs2 := lt_pred hs1; (try (have hs3 := lt_pred hs2; (try have hs4 := lt_pred hs3)))))))))
                go_loopw [5] (fun i wr => ∃ k : Nat, k ≤ a.tolerances.length ∧ i = .int .i64 k ∧ allR k (eqAt eqTol a.tolerances b.tolerances) = true ∧ Below w.heap.size w wr ∧ wr.cell? ⟨w.heap.size, 6, none⟩ = some (.slice A a.tolerances.length c) ∧ wr.cell? ⟨w.heap.size + 1, 6, none⟩ = some (.slice B b.tolerances.length c') ∧ w.heap.size < wr.heap.size ∧ w.heap.size + 1 < wr.heap.size) (fun i _ => a.tolerances.length - (intOf i).toNat)
                case atStart => exact ⟨0, Nat.zero_le _, rfl, rfl, (by repeat (first | (with_reducible exact Below.refl _ _) | (with_reducible refine ext_alloc ?_) | ((with_reducible refine ext_setCell ?_ ?_); focus (simp; (try omega))) | (with_reducible refine below_drewN ?_ _) | (with_reducible refine Below.drew ?_) | (with_reducible (apply ext_step; assumption)))), (by rw [hc _ _ (by simp; omega)]; simp), (by rw [hc _ _ (by simp)]; simp), by omega, by omega⟩
                case round =>
                  obtain ⟨k, hk, rfl, hall, hbr, hx, hy, hq0, hq1⟩ := hrel
                  have Hall := Lib.hid hall
                  clear hall
                  by_cases hlt : k < a.tolerances.length
                  · obtain ⟨bb, o, rfl, -, hbl, hcell⟩ := hA (by omega)
                    obtain ⟨bb', o', rfl, -, hbl', hcell'⟩ := hB (by have := Hlen.out; omega)
                    obtain ⟨d, hd⟩ := exists_at hlt
                    obtain ⟨d', hd'⟩ := exists_at (show k < b.tolerances.length by have := Hlen.out; omega)
                    obtain ⟨es, -, hcs, hC⟩ := hcell k d hd
                    obtain ⟨es', -, hcs', hC'⟩ := hcell' k d' hd'
                    obtain ⟨rfl, -⟩ := hC
                    obtain ⟨rfl, -⟩ := hC'
                    have hc0 := (hbr.cell (p := ⟨bb, o + k * 4 + 0, none⟩) hbl).trans (hcs 0 (by omega))
                    have hd0 := (hbr.cell (p := ⟨bb', o' + k * 4 + 0, none⟩) hbl').trans (hcs' 0 (by omega))
                    have hc1 := (hbr.cell (p := ⟨bb, o + k * 4 + 1, none⟩) hbl).trans (hcs 1 (by omega))
                    have hd1 := (hbr.cell (p := ⟨bb', o' + k * 4 + 1, none⟩) hbl').trans (hcs' 1 (by omega))
                    have hc2 := (hbr.cell (p := ⟨bb, o + k * 4 + 2, none⟩) hbl).trans (hcs 2 (by omega))
                    have hd2 := (hbr.cell (p := ⟨bb', o' + k * 4 + 2, none⟩) hbl').trans (hcs' 2 (by omega))
                    have hc3 := (hbr.cell (p := ⟨bb, o + k * 4 + 3, none⟩) hbl).trans (hcs 3 (by omega))
                    have hd3 := (hbr.cell (p := ⟨bb', o' + k * 4 + 3, none⟩) hbl').trans (hcs' 3 (by omega))
                    simp at hc0 hd0 hc1 hd1 hc2 hd2 hc3 hd3
                    have hbr1 := Nat.lt_of_lt_of_le hbl hbr.size
                    have hbr2 := Nat.lt_of_lt_of_le hbl' hbr.size
                    have hk0 : (0 : Int) ≤ k := by omega
                    have hk1 : (k : Int) < a.tolerances.length := by omega
                    have hk2 : (k : Int) < b.tolerances.length := by have := Hlen.out; omega
                    have He := Lib.hid (eqAt_eq eqTol a.tolerances b.tolerances k d d' hd hd')
                    clear hcs hcell hA hcs' hcell' hB hd hd'
                    rcases q0 : (d.key.toList == d'.key.toList) with _ | _
                    · have Hbad := Lib.hid (show eqAt eqTol a.tolerances b.tolerances k = false by rw [He.out]; simp [eqTol, q0])
                      go_wp2_with fail
                      refine wp_region_det 11 (by kernel_rfl) (by kernel_rfl) (by decide) ?_
                      apply Exists.intro
                      refine And.intro ?_ ?_
                      · (intro W hW; (try simp only [Act.put, List.setIfInBounds_toArray, List.set_cons_zero, List.set_cons_succ]); first | (go_wp2_with fail; exact ⟨rfl, rfl, Below.refl _ _⟩))
                      apply Exists.intro
                      refine And.intro ?_ ?_
                      · (intro W hW; (try simp only [Act.put, List.setIfInBounds_toArray, List.set_cons_zero, List.set_cons_succ]); first | (obtain ⟨hcW, hfW⟩ := bcell hW; have hsW := hW.size; (try simp at hsW); (try have hsW0 := lt_of_succ_le hsW); (try (have hsW1 := lt_pred hsW; (try (have hsW2 := lt_pred hsW1)))); go_wp2_with fail; exact ⟨rfl, rfl, Below.refl _ _⟩))
                      apply Exists.intro
                      refine And.intro ?_ ?_
                      · (intro W hW; (try simp only [Act.put, List.setIfInBounds_toArray, List.set_cons_zero, List.set_cons_succ]); first | (go_wp2_with fail; exact ⟨rfl, rfl, Below.refl _ _⟩))
                      apply Exists.intro
                      refine And.intro ?_ ?_
                      · (intro W hW; (try simp only [Act.put, List.setIfInBounds_toArray, List.set_cons_zero, List.set_cons_succ]); first | (go_wp2_with fail; exact ⟨rfl, rfl, Below.refl _ _⟩))
                      apply Exists.intro
                      refine And.intro ?_ ?_
                      · (intro W hW; (try simp only [Act.put, List.setIfInBounds_toArray, List.set_cons_zero, List.set_cons_succ]); first | (obtain ⟨hcW, hfW⟩ := bcell hW; have hsW := hW.size; (try simp at hsW); (try have hsW0 := lt_of_succ_le hsW); (try (have hsW1 := lt_pred hsW; (try (have hsW2 := lt_pred hsW1)))); go_wp2_with fail; exact ⟨rfl, rfl, Below.refl _ _⟩))
                      apply Exists.intro
                      refine And.intro ?_ ?_
                      · (intro W hW; (try simp only [Act.put, List.setIfInBounds_toArray, List.set_cons_zero, List.set_cons_succ]); first | (go_wp2_with fail; exact ⟨rfl, rfl, Below.refl _ _⟩))
                      apply Exists.intro
                      refine And.intro ?_ ?_
                      · (intro W hW; (try simp only [Act.put, List.setIfInBounds_toArray, List.set_cons_zero, List.set_cons_succ]); first | (obtain ⟨hcW, hfW⟩ := bcell hW; have hsW := hW.size; (try simp at hsW); (try have hsW0 := lt_of_succ_le hsW); (try (have hsW1 := lt_pred hsW; (try (have hsW2 := lt_pred hsW1)))); go_wp2_with fail; exact ⟨rfl, rfl, Below.refl _ _⟩))
                      apply Exists.intro
                      refine And.intro ?_ ?_
                      · (intro W hW; (try simp only [Act.put, List.setIfInBounds_toArray, List.set_cons_zero, List.set_cons_succ]); first | (go_wp2_with fail; exact ⟨rfl, rfl, Below.refl _ _⟩))
                      apply Exists.intro
                      refine And.intro ?_ ?_
                      · (intro W hW; (try simp only [Act.put, List.setIfInBounds_toArray, List.set_cons_zero, List.set_cons_succ]); first | (go_wp2_with fail; exact ⟨rfl, rfl, Below.refl _ _⟩))
                      apply Exists.intro
                      refine And.intro ?_ ?_
                      · (intro W hW; (try simp only [Act.put, List.setIfInBounds_toArray, List.set_cons_zero, List.set_cons_succ]); first | (obtain ⟨hcW, hfW⟩ := bcell hW; have hsW := hW.size; (try simp at hsW); (try have hsW0 := lt_of_succ_le hsW); (try (have hsW1 := lt_pred hsW; (try (have hsW2 := lt_pred hsW1)))); go_wp2_with fail; exact ⟨rfl, rfl, Below.refl _ _⟩))
                      apply Exists.intro
                      refine And.intro ?_ ?_
                      · (intro W hW; (try simp only [Act.put, List.setIfInBounds_toArray, List.set_cons_zero, List.set_cons_succ]); first | (go_wp2_with fail; exact ⟨rfl, rfl, Below.refl _ _⟩))
                      intro w1 hb
                      (first | (have hcu2 := Cum.join hcu hb; (try clear hcu); (try clear hc); (try clear hfz); (try clear hsz); (try clear hs0); (try clear hs1); (try clear hs2); (try clear hs3); (try clear hs4); ) | have hcu2 := Cum.mk hb); have hcu := hcu2; clear hcu2; obtain ⟨hc, hfz⟩ := bcell hcu.h; have hsz := hcu.h.size; (try simp at hsz); (try have hs0 := lt_of_succ_le hsz); (try (have hs1 := lt_pred hsz; (try (have hs2 := lt_pred hs1; (try (have hs3 := lt_pred hs2; (try have hs4 := lt_pred hs3)))))))
                      (try simp only [Act.put, List.setIfInBounds_toArray, List.set_cons_zero, List.set_cons_succ])
                      (try simp only [List.drop_succ_cons, List.drop_nil])
                      go_wp2_with fail
                      have Hf := Hf0.out.trans (eqL_bad eqTol a.tolerances b.tolerances k hlt Hbad.out)
                      go_ret
                      exact ⟨ret_bool Hf.symm, (by repeat (first | (with_reducible exact Below.refl _ _) | (with_reducible refine ext_alloc ?_) | ((with_reducible refine ext_setCell ?_ ?_); focus (simp; (try omega))) | (with_reducible refine below_drewN ?_ _) | (with_reducible refine Below.drew ?_) | (with_reducible (apply ext_step; assumption))))⟩
                    · skip
                      rcases q1 : (d.equal == d'.equal) with _ | _
                      · have Hbad := Lib.hid (show eqAt eqTol a.tolerances b.tolerances k = false by rw [He.out]; simp [eqTol, q0, q1])
                        go_wp2_with fail
                        refine wp_region_det 11 (by kernel_rfl) (by kernel_rfl) (by decide) ?_
                        apply Exists.intro
                        refine And.intro ?_ ?_
                        · (intro W hW; (try simp only [Act.put, List.setIfInBounds_toArray, List.set_cons_zero, List.set_cons_succ]); first | (go_wp2_with fail; exact ⟨rfl, rfl, Below.refl _ _⟩))
                        apply Exists.intro
                        refine And.intro ?_ ?_
                        · (intro W hW; (try simp only [Act.put, List.setIfInBounds_toArray, List.set_cons_zero, List.set_cons_succ]); first | (obtain ⟨hcW, hfW⟩ := bcell hW; have hsW := hW.size; (try simp at hsW); (try have hsW0 := lt_of_succ_le hsW); (try (have hsW1 := lt_pred hsW; (try (have hsW2 := lt_pred hsW1)))); go_wp2_with fail; exact ⟨rfl, rfl, Below.refl _ _⟩))
                        apply Exists.intro
                        refine And.intro ?_ ?_
                        · (intro W hW; (try simp only [Act.put, List.setIfInBounds_toArray, List.set_cons_zero, List.set_cons_succ]); first | (go_wp2_with fail; exact ⟨rfl, rfl, Below.refl _ _⟩))
                        apply Exists.intro
                        refine And.intro ?_ ?_
                        · (intro W hW; (try simp only [Act.put, List.setIfInBounds_toArray, List.set_cons_zero, List.set_cons_succ]); first | (go_wp2_with fail; exact ⟨rfl, rfl, Below.refl _ _⟩))
                        apply Exists.intro
                        refine And.intro ?_ ?_
                        · (intro W hW; (try simp only [Act.put, List.setIfInBounds_toArray, List.set_cons_zero, List.set_cons_succ]); first | (obtain ⟨hcW, hfW⟩ := bcell hW; have hsW := hW.size; (try simp at hsW); (try have hsW0 := lt_of_succ_le hsW); (try (have hsW1 := lt_pred hsW; (try (have hsW2 := lt_pred hsW1)))); go_wp2_with fail; exact ⟨rfl, rfl, Below.refl _ _⟩))
                        apply Exists.intro
                        refine And.intro ?_ ?_
                        · (intro W hW; (try simp only [Act.put, List.setIfInBounds_toArray, List.set_cons_zero, List.set_cons_succ]); first | (go_wp2_with fail; exact ⟨rfl, rfl, Below.refl _ _⟩))
                        apply Exists.intro
                        refine And.intro ?_ ?_
                        · (intro W hW; (try simp only [Act.put, List.setIfInBounds_toArray, List.set_cons_zero, List.set_cons_succ]); first | (obtain ⟨hcW, hfW⟩ := bcell hW; have hsW := hW.size; (try simp at hsW); (try have hsW0 := lt_of_succ_le hsW); (try (have hsW1 := lt_pred hsW; (try (have hsW2 := lt_pred hsW1)))); go_wp2_with fail; exact ⟨rfl, rfl, Below.refl _ _⟩))
                        apply Exists.intro
                        refine And.intro ?_ ?_
                        · (intro W hW; (try simp only [Act.put, List.setIfInBounds_toArray, List.set_cons_zero, List.set_cons_succ]); first | (go_wp2_with fail; exact ⟨rfl, rfl, Below.refl _ _⟩))
                        apply Exists.intro
                        refine And.intro ?_ ?_
                        · (intro W hW; (try simp only [Act.put, List.setIfInBounds_toArray, List.set_cons_zero, List.set_cons_succ]); first | (go_wp2_with fail; exact ⟨rfl, rfl, Below.refl _ _⟩))
                        apply Exists.intro
                        refine And.intro ?_ ?_
                        · (intro W hW; (try simp only [Act.put, List.setIfInBounds_toArray, List.set_cons_zero, List.set_cons_succ]); first | (obtain ⟨hcW, hfW⟩ := bcell hW; have hsW := hW.size; (try simp at hsW); (try have hsW0 := lt_of_succ_le hsW); (try (have hsW1 := lt_pred hsW; (try (have hsW2 := lt_pred hsW1)))); go_wp2_with fail; exact ⟨rfl, rfl, Below.refl _ _⟩))
                        apply Exists.intro
                        refine And.intro ?_ ?_
                        · (intro W hW; (try simp only [Act.put, List.setIfInBounds_toArray, List.set_cons_zero, List.set_cons_succ]); first | (go_wp2_with fail; exact ⟨rfl, rfl, Below.refl _ _⟩))
                        intro w1 hb
                        (first | (have hcu2 := Cum.join hcu hb; (try clear hcu); (try clear hc); (try clear hfz); (try clear hsz); (try clear hs0); (try clear hs1); (try clear hs2); (try clear hs3); (try clear hs4); ) | have hcu2 := Cum.mk hb); have hcu := hcu2; clear hcu2; obtain ⟨hc, hfz⟩ := bcell hcu.h; have hsz := hcu.h.size; (try simp at hsz); (try have hs0 := lt_of_succ_le hsz); (try (have hs1 := lt_pred hsz; (try (have hs2 := lt_pred hs1; (try (have hs3 := lt_pred hs2; (try have hs4 := lt_pred hs3)))))))
                        (try simp only [Act.put, List.setIfInBounds_toArray, List.set_cons_zero, List.set_cons_succ])
                        (try simp only [List.drop_succ_cons, List.drop_nil])
                        go_wp2_with fail
                        have Hf := Hf0.out.trans (eqL_bad eqTol a.tolerances b.tolerances k hlt Hbad.out)
                        go_ret
                        exact ⟨ret_bool Hf.symm, (by repeat (first | (with_reducible exact Below.refl _ _) | (with_reducible refine ext_alloc ?_) | ((with_reducible refine ext_setCell ?_ ?_); focus (simp; (try omega))) | (with_reducible refine below_drewN ?_ _) | (with_reducible refine Below.drew ?_) | (with_reducible (apply ext_step; assumption))))⟩
                      · skip
                        rcases q2 : (d.value.toList == d'.value.toList) with _ | _
                        · have Hbad := Lib.hid (show eqAt eqTol a.tolerances b.tolerances k = false by rw [He.out]; simp [eqTol, q0, q1, q2])
                          go_wp2_with fail
                          refine wp_region_det 11 (by kernel_rfl) (by kernel_rfl) (by decide) ?_
                          apply Exists.intro
                          refine And.intro ?_ ?_
                          · (intro W hW; (try simp only [Act.put, List.setIfInBounds_toArray, List.set_cons_zero, List.set_cons_succ]); first | (go_wp2_with fail; exact ⟨rfl, rfl, Below.refl _ _⟩))
                          apply Exists.intro
                          refine And.intro ?_ ?_
                          · (intro W hW; (try simp only [Act.put, List.setIfInBounds_toArray, List.set_cons_zero, List.set_cons_succ]); first | (obtain ⟨hcW, hfW⟩ := bcell hW; have hsW := hW.size; (try simp at hsW); (try have hsW0 := lt_of_succ_le hsW); (try (have hsW1 := lt_pred hsW; (try (have hsW2 := lt_pred hsW1)))); go_wp2_with fail; exact ⟨rfl, rfl, Below.refl _ _⟩))
                          apply Exists.intro
                          refine And.intro ?_ ?_
                          · (intro W hW; (try simp only [Act.put, List.setIfInBounds_toArray, List.set_cons_zero, List.set_cons_succ]); first | (go_wp2_with fail; exact ⟨rfl, rfl, Below.refl _ _⟩))
                          apply Exists.intro
                          refine And.intro ?_ ?_
                          · (intro W hW; (try simp only [Act.put, List.setIfInBounds_toArray, List.set_cons_zero, List.set_cons_succ]); first | (go_wp2_with fail; exact ⟨rfl, rfl, Below.refl _ _⟩))
                          apply Exists.intro
                          refine And.intro ?_ ?_
                          · (intro W hW; (try simp only [Act.put, List.setIfInBounds_toArray, List.set_cons_zero, List.set_cons_succ]); first | (obtain ⟨hcW, hfW⟩ := bcell hW; have hsW := hW.size; (try simp at hsW); (try have hsW0 := lt_of_succ_le hsW); (try (have hsW1 := lt_pred hsW; (try (have hsW2 := lt_pred hsW1)))); go_wp2_with fail; exact ⟨rfl, rfl, Below.refl _ _⟩))
                          apply Exists.intro
                          refine And.intro ?_ ?_
                          · (intro W hW; (try simp only [Act.put, List.setIfInBounds_toArray, List.set_cons_zero, List.set_cons_succ]); first | (go_wp2_with fail; exact ⟨rfl, rfl, Below.refl _ _⟩))
                          apply Exists.intro
                          refine And.intro ?_ ?_
                          · (intro W hW; (try simp only [Act.put, List.setIfInBounds_toArray, List.set_cons_zero, List.set_cons_succ]); first | (obtain ⟨hcW, hfW⟩ := bcell hW; have hsW := hW.size; (try simp at hsW); (try have hsW0 := lt_of_succ_le hsW); (try (have hsW1 := lt_pred hsW; (try (have hsW2 := lt_pred hsW1)))); go_wp2_with fail; exact ⟨rfl, rfl, Below.refl _ _⟩))
                          apply Exists.intro
                          refine And.intro ?_ ?_
                          · (intro W hW; (try simp only [Act.put, List.setIfInBounds_toArray, List.set_cons_zero, List.set_cons_succ]); first | (go_wp2_with fail; exact ⟨rfl, rfl, Below.refl _ _⟩))
                          apply Exists.intro
                          refine And.intro ?_ ?_
                          · (intro W hW; (try simp only [Act.put, List.setIfInBounds_toArray, List.set_cons_zero, List.set_cons_succ]); first | (go_wp2_with fail; exact ⟨rfl, rfl, Below.refl _ _⟩))
                          apply Exists.intro
                          refine And.intro ?_ ?_
                          · (intro W hW; (try simp only [Act.put, List.setIfInBounds_toArray, List.set_cons_zero, List.set_cons_succ]); first | (obtain ⟨hcW, hfW⟩ := bcell hW; have hsW := hW.size; (try simp at hsW); (try have hsW0 := lt_of_succ_le hsW); (try (have hsW1 := lt_pred hsW; (try (have hsW2 := lt_pred hsW1)))); go_wp2_with fail; exact ⟨rfl, rfl, Below.refl _ _⟩))
                          apply Exists.intro
                          refine And.intro ?_ ?_
                          · (intro W hW; (try simp only [Act.put, List.setIfInBounds_toArray, List.set_cons_zero, List.set_cons_succ]); first | (go_wp2_with fail; exact ⟨rfl, rfl, Below.refl _ _⟩))
                          intro w1 hb
                          (first | (have hcu2 := Cum.join hcu hb; (try clear hcu); (try clear hc); (try clear hfz); (try clear hsz); (try clear hs0); (try clear hs1); (try clear hs2); (try clear hs3); (try clear hs4); ) | have hcu2 := Cum.mk hb); have hcu := hcu2; clear hcu2; obtain ⟨hc, hfz⟩ := bcell hcu.h; have hsz := hcu.h.size; (try simp at hsz); (try have hs0 := lt_of_succ_le hsz); (try (have hs1 := lt_pred hsz; (try (have hs2 := lt_pred hs1; (try (have hs3 := lt_pred hs2; (try have hs4 := lt_pred hs3)))))))
                          (try simp only [Act.put, List.setIfInBounds_toArray, List.set_cons_zero, List.set_cons_succ])
                          (try simp only [List.drop_succ_cons, List.drop_nil])
                          go_wp2_with fail
                          have Hf := Hf0.out.trans (eqL_bad eqTol a.tolerances b.tolerances k hlt Hbad.out)
                          go_ret
                          exact ⟨ret_bool Hf.symm, (by repeat (first | (with_reducible exact Below.refl _ _) | (with_reducible refine ext_alloc ?_) | ((with_reducible refine ext_setCell ?_ ?_); focus (simp; (try omega))) | (with_reducible refine below_drewN ?_ _) | (with_reducible refine Below.drew ?_) | (with_reducible (apply ext_step; assumption))))⟩
                        · skip
                          rcases q3 : (d.effect == d'.effect) with _ | _
                          · have Hbad := Lib.hid (show eqAt eqTol a.tolerances b.tolerances k = false by rw [He.out]; simp [eqTol, q0, q1, q2, q3])
                            go_wp2_with fail
                            refine wp_region_det 11 (by kernel_rfl) (by kernel_rfl) (by decide) ?_
                            apply Exists.intro
                            refine And.intro ?_ ?_
                            · (intro W hW; (try simp only [Act.put, List.setIfInBounds_toArray, List.set_cons_zero, List.set_cons_succ]); first | (go_wp2_with fail; exact ⟨rfl, rfl, Below.refl _ _⟩))
                            apply Exists.intro
                            refine And.intro ?_ ?_
                            · (intro W hW; (try simp only [Act.put, List.setIfInBounds_toArray, List.set_cons_zero, List.set_cons_succ]); first | (obtain ⟨hcW, hfW⟩ := bcell hW; have hsW := hW.size; (try simp at hsW); (try have hsW0 := lt_of_succ_le hsW); (try (have hsW1 := lt_pred hsW; (try (have hsW2 := lt_pred hsW1)))); go_wp2_with fail; exact ⟨rfl, rfl, Below.refl _ _⟩))
                            apply Exists.intro
                            refine And.intro ?_ ?_
                            · (intro W hW; (try simp only [Act.put, List.setIfInBounds_toArray, List.set_cons_zero, List.set_cons_succ]); first | (go_wp2_with fail; exact ⟨rfl, rfl, Below.refl _ _⟩))
                            apply Exists.intro
                            refine And.intro ?_ ?_
                            · (intro W hW; (try simp only [Act.put, List.setIfInBounds_toArray, List.set_cons_zero, List.set_cons_succ]); first | (go_wp2_with fail; exact ⟨rfl, rfl, Below.refl _ _⟩))
                            apply Exists.intro
                            refine And.intro ?_ ?_
                            · (intro W hW; (try simp only [Act.put, List.setIfInBounds_toArray, List.set_cons_zero, List.set_cons_succ]); first | (obtain ⟨hcW, hfW⟩ := bcell hW; have hsW := hW.size; (try simp at hsW); (try have hsW0 := lt_of_succ_le hsW); (try (have hsW1 := lt_pred hsW; (try (have hsW2 := lt_pred hsW1)))); go_wp2_with fail; exact ⟨rfl, rfl, Below.refl _ _⟩))
                            apply Exists.intro
                            refine And.intro ?_ ?_
                            · (intro W hW; (try simp only [Act.put, List.setIfInBounds_toArray, List.set_cons_zero, List.set_cons_succ]); first | (go_wp2_with fail; exact ⟨rfl, rfl, Below.refl _ _⟩))
                            apply Exists.intro
                            refine And.intro ?_ ?_
                            · (intro W hW; (try simp only [Act.put, List.setIfInBounds_toArray, List.set_cons_zero, List.set_cons_succ]); first | (obtain ⟨hcW, hfW⟩ := bcell hW; have hsW := hW.size; (try simp at hsW); (try have hsW0 := lt_of_succ_le hsW); (try (have hsW1 := lt_pred hsW; (try (have hsW2 := lt_pred hsW1)))); go_wp2_with fail; exact ⟨rfl, rfl, Below.refl _ _⟩))
                            apply Exists.intro
                            refine And.intro ?_ ?_
                            · (intro W hW; (try simp only [Act.put, List.setIfInBounds_toArray, List.set_cons_zero, List.set_cons_succ]); first | (go_wp2_with fail; exact ⟨rfl, rfl, Below.refl _ _⟩))
                            apply Exists.intro
                            refine And.intro ?_ ?_
                            · (intro W hW; (try simp only [Act.put, List.setIfInBounds_toArray, List.set_cons_zero, List.set_cons_succ]); first | (go_wp2_with fail; exact ⟨rfl, rfl, Below.refl _ _⟩))
                            apply Exists.intro
                            refine And.intro ?_ ?_
                            · (intro W hW; (try simp only [Act.put, List.setIfInBounds_toArray, List.set_cons_zero, List.set_cons_succ]); first | (obtain ⟨hcW, hfW⟩ := bcell hW; have hsW := hW.size; (try simp at hsW); (try have hsW0 := lt_of_succ_le hsW); (try (have hsW1 := lt_pred hsW; (try (have hsW2 := lt_pred hsW1)))); go_wp2_with fail; exact ⟨rfl, rfl, Below.refl _ _⟩))
                            apply Exists.intro
                            refine And.intro ?_ ?_
                            · (intro W hW; (try simp only [Act.put, List.setIfInBounds_toArray, List.set_cons_zero, List.set_cons_succ]); first | (go_wp2_with fail; exact ⟨rfl, rfl, Below.refl _ _⟩))
                            intro w1 hb
                            (first | (have hcu2 := Cum.join hcu hb; (try clear hcu); (try clear hc); (try clear hfz); (try clear hsz); (try clear hs0); (try clear hs1); (try clear hs2); (try clear hs3); (try clear hs4); ) | have hcu2 := Cum.mk hb); have hcu := hcu2; clear hcu2; obtain ⟨hc, hfz⟩ := bcell hcu.h; have hsz := hcu.h.size; (try simp at hsz); (try have hs0 := lt_of_succ_le hsz); (try (have hs1 := lt_pred hsz; (try (have hs2 := lt_pred hs1; (try (have hs3 := lt_pred hs2; (try have hs4 := lt_pred hs3)))))))
                            (try simp only [Act.put, List.setIfInBounds_toArray, List.set_cons_zero, List.set_cons_succ])
                            (try simp only [List.drop_succ_cons, List.drop_nil])
                            go_wp2_with fail
                            have Hf := Hf0.out.trans (eqL_bad eqTol a.tolerances b.tolerances k hlt Hbad.out)
                            go_ret
                            exact ⟨ret_bool Hf.symm, (by repeat (first | (with_reducible exact Below.refl _ _) | (with_reducible refine ext_alloc ?_) | ((with_reducible refine ext_setCell ?_ ?_); focus (simp; (try omega))) | (with_reducible refine below_drewN ?_ _) | (with_reducible refine Below.drew ?_) | (with_reducible (apply ext_step; assumption))))⟩
                          · skip
                            have Hn := Lib.hid (show allR (k + 1) (eqAt eqTol a.tolerances b.tolerances) = true by rw [allR_succ, Hall.out, He.out]; simp [eqTol, q0, q1, q2, q3])
                            go_wp2_with fail
                            refine wp_region_det 11 (by kernel_rfl) (by kernel_rfl) (by decide) ?_
                            apply Exists.intro
                            refine And.intro ?_ ?_
                            · (intro W hW; (try simp only [Act.put, List.setIfInBounds_toArray, List.set_cons_zero, List.set_cons_succ]); first | (go_wp2_with fail; exact ⟨rfl, rfl, Below.refl _ _⟩))
                            apply Exists.intro
                            refine And.intro ?_ ?_
                            · (intro W hW; (try simp only [Act.put, List.setIfInBounds_toArray, List.set_cons_zero, List.set_cons_succ]); first | (obtain ⟨hcW, hfW⟩ := bcell hW; have hsW := hW.size; (try simp at hsW); (try have hsW0 := lt_of_succ_le hsW); (try (have hsW1 := lt_pred hsW; (try (have hsW2 := lt_pred hsW1)))); go_wp2_with fail; exact ⟨rfl, rfl, Below.refl _ _⟩))
                            apply Exists.intro
                            refine And.intro ?_ ?_
                            · (intro W hW; (try simp only [Act.put, List.setIfInBounds_toArray, List.set_cons_zero, List.set_cons_succ]); first | (go_wp2_with fail; exact ⟨rfl, rfl, Below.refl _ _⟩))
                            apply Exists.intro
                            refine And.intro ?_ ?_
                            · (intro W hW; (try simp only [Act.put, List.setIfInBounds_toArray, List.set_cons_zero, List.set_cons_succ]); first | (go_wp2_with fail; exact ⟨rfl, rfl, Below.refl _ _⟩))
                            apply Exists.intro
                            refine And.intro ?_ ?_
                            · (intro W hW; (try simp only [Act.put, List.setIfInBounds_toArray, List.set_cons_zero, List.set_cons_succ]); first | (obtain ⟨hcW, hfW⟩ := bcell hW; have hsW := hW.size; (try simp at hsW); (try have hsW0 := lt_of_succ_le hsW); (try (have hsW1 := lt_pred hsW; (try (have hsW2 := lt_pred hsW1)))); go_wp2_with fail; exact ⟨rfl, rfl, Below.refl _ _⟩))
                            apply Exists.intro
                            refine And.intro ?_ ?_
                            · (intro W hW; (try simp only [Act.put, List.setIfInBounds_toArray, List.set_cons_zero, List.set_cons_succ]); first | (go_wp2_with fail; exact ⟨rfl, rfl, Below.refl _ _⟩))
                            apply Exists.intro
                            refine And.intro ?_ ?_
                            · (intro W hW; (try simp only [Act.put, List.setIfInBounds_toArray, List.set_cons_zero, List.set_cons_succ]); first | (obtain ⟨hcW, hfW⟩ := bcell hW; have hsW := hW.size; (try simp at hsW); (try have hsW0 := lt_of_succ_le hsW); (try (have hsW1 := lt_pred hsW; (try (have hsW2 := lt_pred hsW1)))); go_wp2_with fail; exact ⟨rfl, rfl, Below.refl _ _⟩))
                            apply Exists.intro
                            refine And.intro ?_ ?_
                            · (intro W hW; (try simp only [Act.put, List.setIfInBounds_toArray, List.set_cons_zero, List.set_cons_succ]); first | (go_wp2_with fail; exact ⟨rfl, rfl, Below.refl _ _⟩))
                            apply Exists.intro
                            refine And.intro ?_ ?_
                            · (intro W hW; (try simp only [Act.put, List.setIfInBounds_toArray, List.set_cons_zero, List.set_cons_succ]); first | (go_wp2_with fail; exact ⟨rfl, rfl, Below.refl _ _⟩))
                            apply Exists.intro
                            refine And.intro ?_ ?_
                            · (intro W hW; (try simp only [Act.put, List.setIfInBounds_toArray, List.set_cons_zero, List.set_cons_succ]); first | (obtain ⟨hcW, hfW⟩ := bcell hW; have hsW := hW.size; (try simp at hsW); (try have hsW0 := lt_of_succ_le hsW); (try (have hsW1 := lt_pred hsW; (try (have hsW2 := lt_pred hsW1)))); go_wp2_with fail; exact ⟨rfl, rfl, Below.refl _ _⟩))
                            apply Exists.intro
                            refine And.intro ?_ ?_
                            · (intro W hW; (try simp only [Act.put, List.setIfInBounds_toArray, List.set_cons_zero, List.set_cons_succ]); first | (go_wp2_with fail; exact ⟨rfl, rfl, Below.refl _ _⟩))
                            intro w1 hb
                            (first | (have hcu2 := Cum.join hcu hb; (try clear hcu); (try clear hc); (try clear hfz); (try clear hsz); (try clear hs0); (try clear hs1); (try clear hs2); (try clear hs3); (try clear hs4); ) | have hcu2 := Cum.mk hb); have hcu := hcu2; clear hcu2; obtain ⟨hc, hfz⟩ := bcell hcu.h; have hsz := hcu.h.size; (try simp at hsz); (try have hs0 := lt_of_succ_le hsz); (try (have hs1 := lt_pred hsz; (try (have hs2 := lt_pred hs1; (try (have hs3 := lt_pred hs2; (try have hs4 := lt_pred hs3)))))))
                            (try simp only [Act.put, List.setIfInBounds_toArray, List.set_cons_zero, List.set_cons_succ])
                            (try simp only [List.drop_succ_cons, List.drop_nil])
                            go_wp2_with fail
                            go_roundw
                            case rel => exact ⟨k + 1, by omega, by go_num, Hn.out, (by repeat (first | (with_reducible exact Below.refl _ _) | (with_reducible refine ext_alloc ?_) | ((with_reducible refine ext_setCell ?_ ?_); focus (simp; (try omega))) | (with_reducible refine below_drewN ?_ _) | (with_reducible refine Below.drew ?_) | (with_reducible (apply ext_step; assumption)))), (by rw [hc _ _ hq0]; exact hx), (by rw [hc _ _ hq1]; exact hy), by omega, by omega⟩
                            case measure => simp [intOf]; omega
                  · obtain rfl : k = a.tolerances.length := by omega
                    clear hA hB
                    go_wp2_with fail
                    go_ret
                    exact ⟨ret_bool (Hf0.out.trans (eqL_all eqTol a.tolerances b.tolerances Hlen.out Hall.out)).symm, (by repeat (first | (with_reducible exact Below.refl _ _) | (with_reducible refine ext_alloc ?_) | ((with_reducible refine ext_setCell ?_ ?_); focus (simp; (try omega))) | (with_reducible refine below_drewN ?_ _) | (with_reducible refine Below.drew ?_) | (with_reducible (apply ext_step; assumption))))⟩
              · have hz : ((a.tolerances.length : Int) != b.tolerances.length) = true := bne_iff_ne.2 (by omega)
                have Hf := Lib.hid (show samePodB a b = false by simp [samePodB, eqL_len eqTol a.tolerances b.tolerances hlen])
                go_enter Try.func30, Try.ntmps30
                go_wp2_with (first | (go_at_call 66; refine (c_spec_SameLabels _ _ _ _ _ _ _ (Sl_Label.now (by assumption) (by repeat (first | (with_reducible exact Below.refl _ _) | (with_reducible refine ext_alloc ?_) | ((with_reducible refine ext_setCell ?_ ?_); focus (simp; (try omega))) | (with_reducible refine below_drewN ?_ _) | (with_reducible refine Below.drew ?_) | (with_reducible (apply ext_step; assumption))))) (Sl_Label.now (by assumption) (by repeat (first | (with_reducible exact Below.refl _ _) | (with_reducible refine ext_alloc ?_) | ((with_reducible refine ext_setCell ?_ ?_); focus (simp; (try omega))) | (with_reducible refine below_drewN ?_ _) | (with_reducible refine Below.drew ?_) | (with_reducible (apply ext_step; assumption)))))).mono ?_; rintro e w1 ⟨rfl, hb⟩; (first | (have hcu2 := Cum.join hcu hb; (try clear hcu); (try clear hc); (try clear hfz); (try clear hsz); (try clear hs0); (try clear hs1); (try clear hs2); (try clear hs3); (try clear hs4); ) | have hcu2 := Cum.mk hb); have hcu := hcu2; clear hcu2; obtain ⟨hc, hfz⟩ := bcell hcu.h; have hsz := hcu.h.size; (try simp at hsz); (try have hs0 := lt_of_succ_le hsz); (try (have hs1 := lt_pred hsz; (try (have hs2 := lt_pred hs1; (try (have hs3 := lt_pred hs2; (try have hs4 := lt_pred hs3)))))))) | (go_at_call 67; refine (c_spec_SameNeeds _ _ _ _ _ _ _ (Sl_Need.now (by assumption) (by repeat (first | (with_reducible exact Below.refl _ _) | (with_reducible refine ext_alloc ?_) | ((with_reducible refine ext_setCell ?_ ?_); focus (simp; (try omega))) | (with_reducible refine below_drewN ?_ _) | (with_reducible refine Below.drew ?_) | (with_reducible (apply ext_step; assumption))))) (Sl_Need.now (by assumption) (by repeat (first | (with_reducible exact Below.refl _ _) | (with_reducible refine ext_alloc ?_) | ((with_reducible refine ext_setCell ?_ ?_); focus (simp; (try omega))) | (with_reducible refine below_drewN ?_ _) | (with_reducible refine Below.drew ?_) | (with_reducible (apply ext_step; assumption)))))).mono ?_; rintro e w1 ⟨rfl, hb⟩; (first | (have hcu2 := Cum.join hcu hb; (try clear hcu); (try clear hc); (try clear hfz); (try clear hsz); (try clear hs0); (try clear hs1); (try clear hs2); (try clear hs3); (try clear hs4); ) | have hcu2 := Cum.mk hb); have hcu := hcu2; clear hcu2; obtain ⟨hc, hfz⟩ := bcell hcu.h; have hsz := hcu.h.size; (try simp at hsz); (try have hs0 := lt_of_succ_le hsz); (try (have hs1 := lt_pred hsz; (try (have hs2 := lt_pred hs1; (try (have hs3 := lt_pred hs2; (try have hs4 := lt_pred hs3)))))))))
                go_ret
                exact ⟨ret_bool Hf.out.symm, (by repeat (first | (with_reducible exact Below.refl _ _) | (with_reducible refine ext_alloc ?_) | ((with_reducible refine ext_setCell ?_ ?_); focus (simp; (try omega))) | (with_reducible refine below_drewN ?_ _) | (with_reducible refine Below.drew ?_) | (with_reducible (apply ext_step; assumption))))⟩
end Go.Proofs.Yteacohdnaddofaa
