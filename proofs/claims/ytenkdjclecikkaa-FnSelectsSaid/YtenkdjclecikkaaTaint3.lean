/- Contracts of the orders of taints and tolerances. No conditions. -/
import Derived.Test.YtenkdjclecikkaaCmp
import Derived.Test.YtenkdjclecikkaaTypes
namespace Go.Proofs.Ytenkdjclecikkaa
open Go.RowKit

def cmpT (a b : Taint) : Int := orI [cmpS a.key b.key, cmpS a.value b.value, cmpI a.effect b.effect]
def lessT (a b : Taint) : Bool := if !(a.key.toList == b.key.toList) then lessS a.key b.key else if !(a.value.toList == b.value.toList) then lessS a.value b.value else decide (a.effect < b.effect)

theorem c_spec_l16Less (a b : Taint) (ca cb : List Value) (w : World) (ha : C_Taint a ca) (hb : C_Taint b cb) :
    Calls Try.prog 75 #[.agg ca.toArray, .agg cb.toArray] w fun e w' => e = .returned (.bool (lessT a b)) ∧ Below w.heap.size w w' := by
  obtain ⟨rfl, -, -, -⟩ := ha
  obtain ⟨rfl, -, -, -⟩ := hb
  go_enter Try.func75, Try.ntmps75
  go_wp2_with fail
  all_goals
    go_ret
    refine ⟨ret_bool ?_, (by repeat (first | (with_reducible exact Below.refl _ _) | (with_reducible refine ext_alloc ?_) | ((with_reducible refine ext_setCell ?_ ?_); focus (simp; (try omega))) | (with_reducible refine below_drewN ?_ _) | (with_reducible refine Below.drew ?_) | (with_reducible (apply ext_step; assumption))))⟩
    simp only [lessT, lessS, *]
    simp
def cmpF (a b : Bool) : Int := if a == b then 0 else if b then -1 else 1
def cmpTol (a b : Tolerance) : Int := orI [cmpS a.key b.key, cmpF a.equal b.equal, cmpS a.value b.value, cmpI a.effect b.effect]
def lessTol (a b : Tolerance) : Bool := if !(a.key.toList == b.key.toList) then lessS a.key b.key else if !(a.equal == b.equal) then b.equal else if !(a.value.toList == b.value.toList) then lessS a.value b.value else decide (a.effect < b.effect)
theorem c_spec_l16Before (a b : Tolerance) (ca cb : List Value) (w : World) (ha : C_Tolerance a ca) (hb : C_Tolerance b cb) :
    Calls Try.prog 62 #[.agg ca.toArray, .agg cb.toArray] w fun e w' => e = .returned (.bool (lessTol a b)) ∧ Below w.heap.size w w' := by
  obtain ⟨rfl, -, -, -⟩ := ha
  obtain ⟨rfl, -, -, -⟩ := hb
  go_enter Try.func62, Try.ntmps62
  go_wp2_with fail
  all_goals
    go_ret
    refine ⟨ret_bool ?_, (by repeat (first | (with_reducible exact Below.refl _ _) | (with_reducible refine ext_alloc ?_) | ((with_reducible refine ext_setCell ?_ ?_); focus (simp; (try omega))) | (with_reducible refine below_drewN ?_ _) | (with_reducible refine Below.drew ?_) | (with_reducible (apply ext_step; assumption))))⟩
    simp only [lessTol, lessS, *]
    simp_all
theorem lessT_iff (a b : Taint) : lessT a b = decide (cmpT a b < 0) := by
  have h1 := cmpS_cases a.key b.key
  have h2 := cmpS_cases a.value b.value
  have h3 := cmpI_cases a.effect b.effect
  unfold lessT cmpT
  rw [beq_toList, beq_toList]
  rcases h1 with ⟨e1, d1⟩ | ⟨e1, d1, l1⟩ | ⟨e1, d1, l1⟩ <;> simp only [e1, d1, orI] <;> simp_all
  rcases h2 with ⟨e2, d2⟩ | ⟨e2, d2, l2⟩ | ⟨e2, d2, l2⟩ <;> simp_all
  rcases h3 with ⟨e3, d3⟩ | ⟨e3, d3⟩ | ⟨e3, d3⟩ <;> simp_all <;> omega
theorem lessTol_iff (a b : Tolerance) : lessTol a b = decide (cmpTol a b < 0) := by
  have h1 := cmpS_cases a.key b.key
  have h2 := cmpS_cases a.value b.value
  have h3 := cmpI_cases a.effect b.effect
  unfold lessTol cmpTol cmpF
  rw [beq_toList, beq_toList]
  rcases h1 with ⟨e1, d1⟩ | ⟨e1, d1, l1⟩ | ⟨e1, d1, l1⟩ <;> simp only [e1, d1, orI] <;> simp_all
  rcases a.equal with _ | _ <;> rcases b.equal with _ | _ <;> simp_all
  all_goals
    rcases h2 with ⟨e2, d2⟩ | ⟨e2, d2, l2⟩ | ⟨e2, d2, l2⟩ <;> simp_all
    rcases h3 with ⟨e3, d3⟩ | ⟨e3, d3⟩ | ⟨e3, d3⟩ <;> simp_all <;> omega
end Go.Proofs.Ytenkdjclecikkaa
