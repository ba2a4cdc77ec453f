/- Contracts of the orders of taints and tolerances. No conditions. -/
import Derived.Test.YtmhlnbihppojmaaCmp
import Derived.Test.YtmhlnbihppojmaaTypes
namespace Go.Proofs.Ytmhlnbihppojmaa
open Go.RowKit

def cmpT (a b : Taint) : Int := orI [cmpS a.key b.key, cmpS a.value b.value, cmpI a.effect b.effect]
def lessT (a b : Taint) : Bool := if !(a.key.toList == b.key.toList) then lessS a.key b.key else if !(a.value.toList == b.value.toList) then lessS a.value b.value else decide (a.effect < b.effect)

theorem c_spec_l16Less (a b : Taint) (ca cb : List Value) (w : World) (ha : C_Taint a ca) (hb : C_Taint b cb) :
    Calls Try.prog 44 #[.agg ca.toArray, .agg cb.toArray] w fun e w' => e = .returned (.bool (lessT a b)) ∧ Below w.heap.size w w' := by
  obtain ⟨rfl, -, -, -⟩ := ha
  obtain ⟨rfl, -, -, -⟩ := hb
  go_enter Try.func44, Try.ntmps44
  go_wp2_with fail
  all_goals
    go_ret
    refine ⟨ret_bool ?_, (by repeat (first | (with_reducible exact Below.refl _ _) | (with_reducible refine ext_alloc ?_) | ((with_reducible refine ext_setCell ?_ ?_); focus (simp; (try omega))) | (with_reducible refine below_drewN ?_ _) | (with_reducible refine Below.drew ?_) | (with_reducible (apply ext_step; assumption))))⟩
    simp only [lessT, lessS, *]
    simp
theorem c_impl_compareTaints (a b : Taint) (ca cb : List Value) (w : World) (ha : C_Taint a ca) (hb : C_Taint b cb) :
    Calls Try.prog 48 #[.agg ca.toArray, .agg cb.toArray] w fun e w' => e = .returned (.int .i64 (cmpT a b)) ∧ Below w.heap.size w w' := by
  obtain ⟨rfl, -, -, -⟩ := ha
  obtain ⟨rfl, -, -, -⟩ := hb
  go_enter Try.func48, Try.ntmps48
  go_wp2_with fail
  go_region_held3 (fun w' => Below ((w.alloc (.cells #[.string a.key, .string a.value, .int .i64 a.effect] 45)).alloc (.cells #[.string b.key, .string b.value, .int .i64 b.effect] 45)).heap.size ((w.alloc (.cells #[.string a.key, .string a.value, .int .i64 a.effect] 45)).alloc (.cells #[.string b.key, .string b.value, .int .i64 b.effect] 45)) w' ∧ (∀ xb xo, xb < ((w.alloc (.cells #[.string a.key, .string a.value, .int .i64 a.effect] 45)).alloc (.cells #[.string b.key, .string b.value, .int .i64 b.effect] 45)).heap.size → w'.cell? ⟨xb, xo, none⟩ = ((w.alloc (.cells #[.string a.key, .string a.value, .int .i64 a.effect] 45)).alloc (.cells #[.string b.key, .string b.value, .int .i64 b.effect] 45)).cell? ⟨xb, xo, none⟩)) (first | exact keep_drew _ | exact keep_ext (by assumption) (by assumption) | exact keep_same (by assumption) | exact keep_alloc (by assumption) _) (first | (go_at_call 100; refine (c_strings_Compare _ _ _).mono ?_; rintro e w9 ⟨rfl, rfl⟩) | (go_at_call 101; refine (c_cmp_Compare _ _ _).mono ?_; rintro e w9 ⟨rfl, rfl⟩) | (go_at_call 99; refine (c_cmp_Or3 (cmpS a.key b.key) (cmpS a.value b.value) (cmpI a.effect b.effect) _ _ 3 ?_).mono ?_; (focus ((try rw [heap_drew]); (try (refine heap_new ?_; simp)); done)); rintro e w9 ⟨rfl, rfl⟩))
  (have hb := held_step (by assumption); (first | (have hcu2 := Cum.join hcu hb; (try clear hcu); (try clear hc); (try clear hfz); (try clear hsz); (try clear hs0); (try clear hs1); (try clear hs2); (try clear hs3); (try clear hs4); ) | have hcu2 := Cum.mk hb); have hcu := hcu2; clear hcu2; obtain ⟨hc, hfz⟩ := bcell hcu.h; have hsz := hcu.h.size; (try simp at hsz); (try have hs0 := lt_of_succ_le hsz); (try (have hs1 := lt_pred hsz; (try (have hs2 := lt_pred hs1; (try (have hs3 := lt_pred hs2; (try have hs4 := lt_pred hs3))))))))
  go_wp2_with fail
  go_ret
  exact ⟨rfl, (by repeat (first | (with_reducible exact Below.refl _ _) | (with_reducible refine ext_alloc ?_) | ((with_reducible refine ext_setCell ?_ ?_); focus (simp; (try omega))) | (with_reducible refine below_drewN ?_ _) | (with_reducible refine Below.drew ?_) | (with_reducible (apply ext_step; assumption))))⟩
def cmpF (a b : Bool) : Int := if a == b then 0 else if b then -1 else 1
def cmpTol (a b : Tolerance) : Int := orI [cmpS a.key b.key, cmpF a.equal b.equal, cmpS a.value b.value, cmpI a.effect b.effect]
def lessTol (a b : Tolerance) : Bool := if !(a.key.toList == b.key.toList) then lessS a.key b.key else if !(a.equal == b.equal) then b.equal else if !(a.value.toList == b.value.toList) then lessS a.value b.value else decide (a.effect < b.effect)
theorem c_spec_l16Before (a b : Tolerance) (ca cb : List Value) (w : World) (ha : C_Tolerance a ca) (hb : C_Tolerance b cb) :
    Calls Try.prog 53 #[.agg ca.toArray, .agg cb.toArray] w fun e w' => e = .returned (.bool (lessTol a b)) ∧ Below w.heap.size w w' := by
  obtain ⟨rfl, -, -, -⟩ := ha
  obtain ⟨rfl, -, -, -⟩ := hb
  go_enter Try.func53, Try.ntmps53
  go_wp2_with fail
  all_goals
    go_ret
    refine ⟨ret_bool ?_, (by repeat (first | (with_reducible exact Below.refl _ _) | (with_reducible refine ext_alloc ?_) | ((with_reducible refine ext_setCell ?_ ?_); focus (simp; (try omega))) | (with_reducible refine below_drewN ?_ _) | (with_reducible refine Below.drew ?_) | (with_reducible (apply ext_step; assumption))))⟩
    simp only [lessTol, lessS, *]
    simp_all
theorem c_impl_compareFlags (a b : Bool) (w : World) :
    Calls Try.prog 103 #[.bool a, .bool b] w fun e w' => e = .returned (.int .i64 (cmpF a b)) ∧ w = w' := by
  cases a <;> cases b
  all_goals
    go_enter Try.func103, Try.ntmps103
    go_wp2_with fail
    go_ret
    exact ⟨rfl, rfl⟩
theorem c_impl_compareTolerances (a b : Tolerance) (ca cb : List Value) (w : World) (ha : C_Tolerance a ca) (hb : C_Tolerance b cb) :
    Calls Try.prog 57 #[.agg ca.toArray, .agg cb.toArray] w fun e w' => e = .returned (.int .i64 (cmpTol a b)) ∧ Below w.heap.size w w' := by
  obtain ⟨rfl, -, -, -⟩ := ha
  obtain ⟨rfl, -, -, -⟩ := hb
  go_enter Try.func57, Try.ntmps57
  go_wp2_with fail
  go_region_held3 (fun w' => Below ((w.alloc (.cells #[.string a.key, .bool a.equal, .string a.value, .int .i64 a.effect] 47)).alloc (.cells #[.string b.key, .bool b.equal, .string b.value, .int .i64 b.effect] 47)).heap.size ((w.alloc (.cells #[.string a.key, .bool a.equal, .string a.value, .int .i64 a.effect] 47)).alloc (.cells #[.string b.key, .bool b.equal, .string b.value, .int .i64 b.effect] 47)) w' ∧ (∀ xb xo, xb < ((w.alloc (.cells #[.string a.key, .bool a.equal, .string a.value, .int .i64 a.effect] 47)).alloc (.cells #[.string b.key, .bool b.equal, .string b.value, .int .i64 b.effect] 47)).heap.size → w'.cell? ⟨xb, xo, none⟩ = ((w.alloc (.cells #[.string a.key, .bool a.equal, .string a.value, .int .i64 a.effect] 47)).alloc (.cells #[.string b.key, .bool b.equal, .string b.value, .int .i64 b.effect] 47)).cell? ⟨xb, xo, none⟩)) (first | exact keep_drew _ | exact keep_ext (by assumption) (by assumption) | exact keep_same (by assumption) | exact keep_alloc (by assumption) _) (first | (go_at_call 100; refine (c_strings_Compare _ _ _).mono ?_; rintro e w9 ⟨rfl, rfl⟩) | (go_at_call 101; refine (c_cmp_Compare _ _ _).mono ?_; rintro e w9 ⟨rfl, rfl⟩) | (go_at_call 103; refine (c_impl_compareFlags _ _ _).mono ?_; rintro e w9 ⟨rfl, rfl⟩) | (go_at_call 99; refine (c_cmp_Or4 (cmpS a.key b.key) (cmpF a.equal b.equal) (cmpS a.value b.value) (cmpI a.effect b.effect) _ _ 3 ?_).mono ?_; (focus ((try rw [heap_drew]); (try (refine heap_new ?_; simp)); done)); rintro e w9 ⟨rfl, rfl⟩))
  (have hb := held_step (by assumption); (first | (have hcu2 := Cum.join hcu hb; (try clear hcu); (try clear hc); (try clear hfz); (try clear hsz); (try clear hs0); (try clear hs1); (try clear hs2); (try clear hs3); (try clear hs4); ) | have hcu2 := Cum.mk hb); have hcu := hcu2; clear hcu2; obtain ⟨hc, hfz⟩ := bcell hcu.h; have hsz := hcu.h.size; (try simp at hsz); (try have hs0 := lt_of_succ_le hsz); (try (have hs1 := lt_pred hsz; (try (have hs2 := lt_pred hs1; (try (have hs3 := lt_pred hs2; (try have hs4 := lt_pred hs3))))))))
  go_wp2_with fail
  go_ret
  exact ⟨rfl, (by repeat (first | (with_reducible exact Below.refl _ _) | (with_reducible refine ext_alloc ?_) | ((with_reducible refine ext_setCell ?_ ?_); focus (simp; (try omega))) | (with_reducible refine below_drewN ?_ _) | (with_reducible refine Below.drew ?_) | (with_reducible (apply ext_step; assumption))))⟩
theorem lessT_iff (a b : Taint) : lessT a b = decide (cmpT a b < 0) := by
  have h1 := cmpS_cases a.key b.key
  have h2 := cmpS_cases a.value b.value
  have h3 := cmpI_cases a.effect b.effect
  unfold lessT cmpT
  rw [beq_toList, beq_toList]
  rcases h1 with ⟨e1, d1⟩ | ⟨e1, d1, l1⟩ | ⟨e1, d1, l1⟩ <;> simp only [e1, d1, orI] <;> simp_all
  rcases h2 with ⟨e2, d2⟩ | ⟨e2, d2, l2⟩ | ⟨e2, d2, l2⟩ <;> simp_all
  rcases h3 with ⟨e3, d3⟩ | ⟨e3, d3⟩ | ⟨e3, d3⟩ <;> simp_all <;> omega
theorem lessTol_iff (a b : Tolerance) : lessTol a b = decide (cmpTol a b < 0) := by
  have h1 := cmpS_cases a.key b.key
  have h2 := cmpS_cases a.value b.value
  have h3 := cmpI_cases a.effect b.effect
  unfold lessTol cmpTol cmpF
  rw [beq_toList, beq_toList]
  rcases h1 with ⟨e1, d1⟩ | ⟨e1, d1, l1⟩ | ⟨e1, d1, l1⟩ <;> simp only [e1, d1, orI] <;> simp_all
  rcases a.equal with _ | _ <;> rcases b.equal with _ | _ <;> simp_all
  all_goals
    rcases h2 with ⟨e2, d2⟩ | ⟨e2, d2, l2⟩ | ⟨e2, d2, l2⟩ <;> simp_all
    rcases h3 with ⟨e3, d3⟩ | ⟨e3, d3⟩ | ⟨e3, d3⟩ <;> simp_all <;> omega
end Go.Proofs.Ytmhlnbihppojmaa
