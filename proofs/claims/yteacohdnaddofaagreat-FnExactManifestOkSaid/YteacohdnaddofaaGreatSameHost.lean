/- Contracts of SameHost. No conditions. Written by wip/tools/gensame.py. -/
import Derived.Test.YteacohdnaddofaaGreatEq
namespace Go.Proofs.YteacohdnaddofaaGreat
open Go.RowKit

def sameHostB (a b : Host) : Bool := (a.name.toList == b.name.toList) && eqL eqLab a.labels b.labels && (a.cpu == b.cpu) && (a.mem == b.mem) && (a.slots == b.slots) && eqL eqTnt a.taints b.taints

set_option maxHeartbeats 1000000 in
theorem c_impl_SameHost (a b : Host) (ca cb : List Value) (w : World) (lo lo' : Nat) (ha : C_Host lo w.heap.size w a ca) (hb : C_Host lo' w.heap.size w b cb) :
    Calls Tryz.prog 18 #[.agg ca.toArray, .agg cb.toArray] w fun e w' => e = .returned (.bool (sameHostB a b)) ∧ Below w.heap.size w w' := by
  obtain ⟨v1, v5, rfl, a0, a1, a2, a3, a4, a5⟩ := ha
  obtain ⟨A1, c1, rfl⟩ := a1.form
  obtain ⟨A, c, rfl⟩ := a5.form
  obtain ⟨u1, u5, rfl, b0, b1, b2, b3, b4, b5⟩ := hb
  obtain ⟨B1, d1, rfl⟩ := b1.form
  obtain ⟨B, c', rfl⟩ := b5.form
  unfold I64 at a2 a3 a4 b2 b3 b4
  go_enter Tryz.func18, Tryz.ntmps18
  go_wp2_with (first | (go_at_call 42; refine (c_impl_SameLabels _ _ _ _ _ _ _ (Sl_Label.now (by assumption) (by repeat (first | (with_reducible exact Below.refl _ _) | (with_reducible refine ext_alloc ?_) | ((with_reducible refine ext_setCell ?_ ?_); focus (simp; (try omega))) | (with_reducible refine below_drewN ?_ _) | (with_reducible refine Below.drew ?_) | (with_reducible (apply ext_step; assumption))))) (Sl_Label.now (by assumption) (by repeat (first | (with_reducible exact Below.refl _ _) | (with_reducible refine ext_alloc ?_) | ((with_reducible refine ext_setCell ?_ ?_); focus (simp; (try omega))) | (with_reducible refine below_drewN ?_ _) | (with_reducible refine Below.drew ?_) | (with_reducible (apply ext_step; assumption)))))).mono ?_; rintro e w1 ⟨rfl, hb⟩; (first | (have hcu2 := Cum.join hcu hb; (try clear hcu); (try clear hc); (try clear hfz); (try clear hsz); (try clear hs0); (try clear hs1); (try clear hs2); (try clear hs3); (try clear hs4); ) | have hcu2 := Cum.mk hb); have hcu := hcu2; clear hcu2; obtain ⟨hc, hfz⟩ := bcell hcu.h; have hsz := hcu.h.size; (try simp at hsz); (try have hs0 := lt_of_succ_le hsz); (try (have hs1 := lt_pred hsz; (try (have hs2 := lt_pred hs1; (try (have hs3 := lt_pred hs2; (try have hs4 := lt_pred hs3)))))))) | (go_at_call 43; refine (c_Equal_Taint _ _ _ _ _ _ _ (Sl_Taint.now (by assumption) (by repeat (first | (with_reducible exact Below.refl _ _) | (with_reducible refine ext_alloc ?_) | ((with_reducible refine ext_setCell ?_ ?_); focus (simp; (try omega))) | (with_reducible refine below_drewN ?_ _) | (with_reducible refine Below.drew ?_) | (with_reducible (apply ext_step; assumption))))) (Sl_Taint.now (by assumption) (by repeat (first | (with_reducible exact Below.refl _ _) | (with_reducible refine ext_alloc ?_) | ((with_reducible refine ext_setCell ?_ ?_); focus (simp; (try omega))) | (with_reducible refine below_drewN ?_ _) | (with_reducible refine Below.drew ?_) | (with_reducible (apply ext_step; assumption)))))).mono ?_; rintro e w1 ⟨rfl, hb⟩; (first | (have hcu2 := Cum.join hcu hb; (try clear hcu); (try clear hc); (try clear hfz); (try clear hsz); (try clear hs0); (try clear hs1); (try clear hs2); (try clear hs3); (try clear hs4); ) | have hcu2 := Cum.mk hb); have hcu := hcu2; clear hcu2; obtain ⟨hc, hfz⟩ := bcell hcu.h; have hsz := hcu.h.size; (try simp at hsz); (try have hs0 := lt_of_succ_le hsz); (try (have hs1 := lt_pred hsz; (try (have hs2 := lt_pred hs1; (try (have hs3 := lt_pred hs2; (try have hs4 := lt_pred hs3)))))))))
  all_goals
    go_ret
    exact ⟨ret_bool (by simp_all [sameHostB]), (by repeat (first | (with_reducible exact Below.refl _ _) | (with_reducible refine ext_alloc ?_) | ((with_reducible refine ext_setCell ?_ ?_); focus (simp; (try omega))) | (with_reducible refine below_drewN ?_ _) | (with_reducible refine Below.drew ?_) | (with_reducible (apply ext_step; assumption))))⟩
end Go.Proofs.YteacohdnaddofaaGreat
