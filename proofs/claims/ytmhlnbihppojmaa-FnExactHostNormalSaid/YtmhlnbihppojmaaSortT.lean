/- The library's sort at the program's comparisons of taints and tolerances, over a row of the call's own. No conditions. -/
import Derived.Test.YtmhlnbihppojmaaSortE
import Derived.Test.YtmhlnbihppojmaaCloneT
import Derived.Shelf.SlSortCmp.NoneTotal
namespace Go.Proofs.Ytmhlnbihppojmaa
open Go.RowKit

theorem ltOf_T : Go.Proofs.ltOf cmpT = lessT := by
  funext a b
  unfold Go.Proofs.ltOf
  exact (lessT_iff a b).symm
theorem ltOf_Tol : Go.Proofs.ltOf cmpTol = lessTol := by
  funext a b
  unfold Go.Proofs.ltOf
  exact (lessTol_iff a b).symm
theorem c_SortFunc_Taint (l : List Taint) (v : Value) (base : Nat) (w : World) (h : RowE encT 3 45 base w l v) (hn : l.length ≤ 1048576) :
    Calls Try.prog 47 #[v, .func (.func 48) #[] #[]] w fun e w' => ∃ l', e = .returned (.tuple #[]) ∧ l'.length = l.length ∧ (∀ x, x ∈ l' ↔ x ∈ l) ∧ l'.Pairwise (fun a b => lessT b a = false) ∧ RowE encT 3 45 base w' l' v ∧ Aside (fun b => v.ownBlock = some b) w w' := by
  by_cases hp : 0 < l.length
  · obtain ⟨g, cap, cur, rfl, hb, hg, h1, h2, -, -⟩ := h.row encT_len hp
    have hH := h.holds encT_len (by decide) hp
    have eg : ∀ args w, (callFunc 48 args).run Try.prog w = .ok (.enter 48 args) w := enters_of Try.func48 (by kernel_rfl) rfl
    have hO : Go.Sort.SWO (Go.Proofs.ltOf cmpT) := by rw [ltOf_T]; exact lt_T
    have hcon := AnyQ.slices_SortFunc sortTaint 3 Try.isAgg45 Try.sizeOf45 encT encT_len encT_one cmpT hO 48 #[] g 0 cap l.toArray w eg (fun m os dk _ x y => (x_compareTaints x y _).mono fun e w' h => h) hH (row_lt hg) (by simp; omega)
    change Calls Try.prog 47 _ _ _ at hcon
    rw [List.size_toArray] at hcon
    refine hcon.mono ?_
    rintro e w' ⟨rfl, d', m, os, hP, hS, rfl⟩
    obtain ⟨p1, p2⟩ := perm_of_in (by rw [List.size_toArray]; exact hP)
    rw [ltOf_T] at hS
    refine ⟨d'.toList, rfl, by simpa using p1, p2, pair_of_sorted (by rw [p1]; exact hS), h.sorted encT_len (by decide) p1, sorted_aside.mono (fun b hb => by subst hb; rfl)⟩
  · obtain rfl : l = [] := List.eq_nil_of_length_eq_zero (by omega)
    obtain ⟨A, c, rfl⟩ := h.form
    have hcon := AnyF.slices_SortFunc_none sortTaint A c (.func (.func 48) #[] #[]) w
    change Calls Try.prog 47 _ _ _ at hcon
    refine hcon.mono ?_
    rintro e w' ⟨rfl, rfl⟩
    exact ⟨[], rfl, rfl, fun x => Iff.rfl, List.Pairwise.nil, h, Aside.refl _ _⟩
theorem c_SortFunc_Tolerance (l : List Tolerance) (v : Value) (base : Nat) (w : World) (h : RowE encTol 4 47 base w l v) (hn : l.length ≤ 1048576) :
    Calls Try.prog 56 #[v, .func (.func 57) #[] #[]] w fun e w' => ∃ l', e = .returned (.tuple #[]) ∧ l'.length = l.length ∧ (∀ x, x ∈ l' ↔ x ∈ l) ∧ l'.Pairwise (fun a b => lessTol b a = false) ∧ RowE encTol 4 47 base w' l' v ∧ Aside (fun b => v.ownBlock = some b) w w' := by
  by_cases hp : 0 < l.length
  · obtain ⟨g, cap, cur, rfl, hb, hg, h1, h2, -, -⟩ := h.row encTol_len hp
    have hH := h.holds encTol_len (by decide) hp
    have eg : ∀ args w, (callFunc 57 args).run Try.prog w = .ok (.enter 57 args) w := enters_of Try.func57 (by kernel_rfl) rfl
    have hO : Go.Sort.SWO (Go.Proofs.ltOf cmpTol) := by rw [ltOf_Tol]; exact lt_Tol
    have hcon := AnyQ.slices_SortFunc sortTolerance 4 Try.isAgg47 Try.sizeOf47 encTol encTol_len encTol_one cmpTol hO 57 #[] g 0 cap l.toArray w eg (fun m os dk _ x y => (x_compareTolerances x y _).mono fun e w' h => h) hH (row_lt hg) (by simp; omega)
    change Calls Try.prog 56 _ _ _ at hcon
    rw [List.size_toArray] at hcon
    refine hcon.mono ?_
    rintro e w' ⟨rfl, d', m, os, hP, hS, rfl⟩
    obtain ⟨p1, p2⟩ := perm_of_in (by rw [List.size_toArray]; exact hP)
    rw [ltOf_Tol] at hS
    refine ⟨d'.toList, rfl, by simpa using p1, p2, pair_of_sorted (by rw [p1]; exact hS), h.sorted encTol_len (by decide) p1, sorted_aside.mono (fun b hb => by subst hb; rfl)⟩
  · obtain rfl : l = [] := List.eq_nil_of_length_eq_zero (by omega)
    obtain ⟨A, c, rfl⟩ := h.form
    have hcon := AnyF.slices_SortFunc_none sortTolerance A c (.func (.func 57) #[] #[]) w
    change Calls Try.prog 56 _ _ _ at hcon
    refine hcon.mono ?_
    rintro e w' ⟨rfl, rfl⟩
    exact ⟨[], rfl, rfl, fun x => Iff.rfl, List.Pairwise.nil, h, Aside.refl _ _⟩
end Go.Proofs.Ytmhlnbihppojmaa
