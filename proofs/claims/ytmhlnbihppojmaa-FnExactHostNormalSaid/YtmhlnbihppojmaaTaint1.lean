/- Contracts of the tests of one label, one taint, one tolerance, one pair of both. No conditions. -/
import Derived.Test.YtmhlnbihppojmaaWordS
namespace Go.Proofs.Ytmhlnbihppojmaa
open Go.RowKit

def lkB (s : ByteArray) : Bool := decide (s.size ≤ 30) && wordB s [45, 95, 46, 47]
def lvB (s : ByteArray) : Bool := s.toList.isEmpty || (decide (s.size ≤ 20) && wordB s [45, 95, 46])
def taintB (k v : ByteArray) (e : Int) : Bool := lkB k && lvB v && inB e 1 2
def tolB (k : ByteArray) (q : Bool) (v : ByteArray) (e : Int) : Bool := (lkB k || k.toList.isEmpty && !q) && lvB v && (v.toList.isEmpty || q) && inB e 0 2
def tolsB (k : ByteArray) (q : Bool) (v : ByteArray) (e : Int) (xk xv : ByteArray) (xe : Int) : Bool :=
  tolB k q v e && taintB xk xv xe && (k.toList.isEmpty || k.toList == xk.toList) && (!q || v.toList == xv.toList) && (e == 0 || e == xe)

theorem c_impl_LabelKeyOk (s : ByteArray) (w : World) (h1 : s.size ≤ 9223372036854775807) : Calls Try.prog 110 #[.string s] w fun e w' => e = .returned (.bool (lkB s)) ∧ w = w' := by
  rcases hi : inB (s.size : Int) 1 30 with _ | _
  · have hf : lkB s = false := by
      simp [inB] at hi
      by_cases h0 : s.size = 0
      · simp [lkB, wordB_empty s _ h0]
      · simp [lkB]; intro; omega
    have Hf := Lib.hid hf
    clear hf
    go_enter Try.func110, Try.ntmps110
    go_wp2_with (first | (go_at_call 112; refine (c_impl_within _ _ _ _).mono ?_; rintro e w' ⟨rfl, rfl⟩))
    go_ret
    exact ⟨ret_bool Hf.out.symm, rfl⟩
  · simp [inB] at hi
    have hf : lkB s = wordB s [45, 95, 46, 47] := by simp [lkB]; intro; omega
    have hi2 : inB (s.size : Int) 1 30 = true := by simp [inB]; omega
    have Hf := Lib.hid hf
    clear hf
    go_enter Try.func110, Try.ntmps110
    go_wp2_with (first | (go_at_call 112; refine (c_impl_within _ _ _ _).mono ?_; rintro e w' ⟨rfl, rfl⟩) | (go_at_call 161; refine (c_impl_wordOk _ _ _ (by omega) (by omega)).mono ?_; rintro e w' ⟨rfl, rfl⟩))
    go_ret
    exact ⟨ret_bool Hf.out.symm, rfl⟩
theorem c_impl_LabelValueOk (s : ByteArray) (w : World) (h1 : s.size ≤ 9223372036854775807) : Calls Try.prog 111 #[.string s] w fun e w' => e = .returned (.bool (lvB s)) ∧ w = w' := by
  rcases he : s.toList.isEmpty with _ | _
  · have h0 := isEmpty_false he
    by_cases h20 : s.size ≤ 20
    · have Hf := Lib.hid (show lvB s = wordB s [45, 95, 46] by simp [lvB, he, h20])
      go_enter Try.func111, Try.ntmps111
      go_wp2_with (first | (go_at_call 161; refine (c_impl_wordOk _ _ _ (by omega) (by omega)).mono ?_; rintro e w' ⟨rfl, rfl⟩))
      go_ret
      exact ⟨ret_bool Hf.out.symm, rfl⟩
    · have Hf := Lib.hid (show lvB s = false by simp [lvB, he, h20])
      go_enter Try.func111, Try.ntmps111
      go_wp2_with (first | (go_at_call 161; refine (c_impl_wordOk _ _ _ (by omega) (by omega)).mono ?_; rintro e w' ⟨rfl, rfl⟩))
      go_ret
      exact ⟨ret_bool Hf.out.symm, rfl⟩
  · have Hf := Lib.hid (show lvB s = true by simp [lvB, he])
    go_enter Try.func111, Try.ntmps111
    go_wp2_with fail
    go_ret
    exact ⟨ret_bool Hf.out.symm, rfl⟩
theorem c_spec_LabelKeyOk (s : ByteArray) (w : World) (h1 : s.size ≤ 9223372036854775807) : Calls Try.prog 113 #[.string s] w fun e w' => e = .returned (.bool (lkB s)) ∧ Below w.heap.size w w' := by
  have hs : (ByteArray.mk #[45, 95, 46, 47]).size ≤ 9223372036854775807 := by decide
  by_cases h20 : s.size ≤ 30
  · have Hf := Lib.hid (show lkB s = wordB s [45, 95, 46, 47] by simp [lkB, h20])
    go_enter Try.func113, Try.ntmps113
    go_wp2_with (go_at_call 162; refine (c_spec_l14Word _ _ _ h1 hs).mono ?_; rintro e w' ⟨rfl, n', rfl⟩)
    go_ret
    exact ⟨ret_bool Hf.out.symm, (by repeat (first | (with_reducible exact Below.refl _ _) | (with_reducible refine ext_alloc ?_) | ((with_reducible refine ext_setCell ?_ ?_); focus (simp; (try omega))) | (with_reducible refine below_drewN ?_ _) | (with_reducible refine Below.drew ?_) | (with_reducible (apply ext_step; assumption))))⟩
  · have Hf := Lib.hid (show lkB s = false by simp [lkB, h20])
    go_enter Try.func113, Try.ntmps113
    go_wp2_with fail
    go_ret
    exact ⟨ret_bool Hf.out.symm, (by repeat (first | (with_reducible exact Below.refl _ _) | (with_reducible refine ext_alloc ?_) | ((with_reducible refine ext_setCell ?_ ?_); focus (simp; (try omega))) | (with_reducible refine below_drewN ?_ _) | (with_reducible refine Below.drew ?_) | (with_reducible (apply ext_step; assumption))))⟩
theorem c_spec_LabelValueOk (s : ByteArray) (w : World) (h1 : s.size ≤ 9223372036854775807) : Calls Try.prog 114 #[.string s] w fun e w' => e = .returned (.bool (lvB s)) ∧ Below w.heap.size w w' := by
  have hs : (ByteArray.mk #[45, 95, 46]).size ≤ 9223372036854775807 := by decide
  rcases he : s.toList.isEmpty with _ | _
  · by_cases h20 : s.size ≤ 20
    · have Hf := Lib.hid (show lvB s = wordB s [45, 95, 46] by simp [lvB, he, h20])
      go_enter Try.func114, Try.ntmps114
      go_wp2_with (go_at_call 162; refine (c_spec_l14Word _ _ _ h1 hs).mono ?_; rintro e w' ⟨rfl, n', rfl⟩)
      go_ret
      exact ⟨ret_bool Hf.out.symm, (by repeat (first | (with_reducible exact Below.refl _ _) | (with_reducible refine ext_alloc ?_) | ((with_reducible refine ext_setCell ?_ ?_); focus (simp; (try omega))) | (with_reducible refine below_drewN ?_ _) | (with_reducible refine Below.drew ?_) | (with_reducible (apply ext_step; assumption))))⟩
    · have Hf := Lib.hid (show lvB s = false by simp [lvB, he, h20])
      go_enter Try.func114, Try.ntmps114
      go_wp2_with fail
      go_ret
      exact ⟨ret_bool Hf.out.symm, (by repeat (first | (with_reducible exact Below.refl _ _) | (with_reducible refine ext_alloc ?_) | ((with_reducible refine ext_setCell ?_ ?_); focus (simp; (try omega))) | (with_reducible refine below_drewN ?_ _) | (with_reducible refine Below.drew ?_) | (with_reducible (apply ext_step; assumption))))⟩
  · have Hf := Lib.hid (show lvB s = true by simp [lvB, he])
    go_enter Try.func114, Try.ntmps114
    go_wp2_with fail
    go_ret
    exact ⟨ret_bool Hf.out.symm, (by repeat (first | (with_reducible exact Below.refl _ _) | (with_reducible refine ext_alloc ?_) | ((with_reducible refine ext_setCell ?_ ?_); focus (simp; (try omega))) | (with_reducible refine below_drewN ?_ _) | (with_reducible refine Below.drew ?_) | (with_reducible (apply ext_step; assumption))))⟩
theorem c_impl_TaintOk (k v : ByteArray) (x : Int) (w : World) (h1 : k.size ≤ 9223372036854775807) (h2 : v.size ≤ 9223372036854775807) : Calls Try.prog 63 #[.agg #[.string k, .string v, .int .i64 x]] w fun e w' => e = .returned (.bool (taintB k v x)) ∧ Below w.heap.size w w' := by
  go_enter Try.func63, Try.ntmps63
  go_wp2_with (first | (go_at_call 110; refine (c_impl_LabelKeyOk _ _ (by omega)).mono ?_; rintro e w1 ⟨rfl, rfl⟩) | (go_at_call 111; refine (c_impl_LabelValueOk _ _ (by omega)).mono ?_; rintro e w1 ⟨rfl, rfl⟩) | (go_at_call 112; refine (c_impl_within _ _ _ _).mono ?_; rintro e w' ⟨rfl, rfl⟩))
  all_goals
    go_ret
    exact ⟨ret_bool (by simp_all [taintB]), (by repeat (first | (with_reducible exact Below.refl _ _) | (with_reducible refine ext_alloc ?_) | ((with_reducible refine ext_setCell ?_ ?_); focus (simp; (try omega))) | (with_reducible refine below_drewN ?_ _) | (with_reducible refine Below.drew ?_) | (with_reducible (apply ext_step; assumption))))⟩
theorem c_spec_TaintOk (k v : ByteArray) (x : Int) (w : World) (h1 : k.size ≤ 9223372036854775807) (h2 : v.size ≤ 9223372036854775807) : Calls Try.prog 64 #[.agg #[.string k, .string v, .int .i64 x]] w fun e w' => e = .returned (.bool (taintB k v x)) ∧ Below w.heap.size w w' := by
  go_enter Try.func64, Try.ntmps64
  go_wp2_with (first | (go_at_call 113; refine (c_spec_LabelKeyOk _ _ (by omega)).mono ?_; rintro e w1 ⟨rfl, hb⟩; (first | (have hcu2 := Cum.join hcu hb; (try clear hcu); (try clear hc); (try clear hfz); (try clear hsz); (try clear hs0); (try clear hs1); (try clear hs2); (try clear hs3); (try clear hs4); ) | have hcu2 := Cum.mk hb); have hcu := hcu2; clear hcu2; obtain ⟨hc, hfz⟩ := bcell hcu.h; have hsz := hcu.h.size; (try simp at hsz); (try have hs0 := lt_of_succ_le hsz); (try (have hs1 := lt_pred hsz; (try (have hs2 := lt_pred hs1; (try (have hs3 := lt_pred hs2; (try have hs4 := lt_pred hs3)))))))) | (go_at_call 114; refine (c_spec_LabelValueOk _ _ (by omega)).mono ?_; rintro e w1 ⟨rfl, hb⟩; (first | (have hcu2 := Cum.join hcu hb; (try clear hcu); (try clear hc); (try clear hfz); (try clear hsz); (try clear hs0); (try clear hs1); (try clear hs2); (try clear hs3); (try clear hs4); ) | have hcu2 := Cum.mk hb); have hcu := hcu2; clear hcu2; obtain ⟨hc, hfz⟩ := bcell hcu.h; have hsz := hcu.h.size; (try simp at hsz); (try have hs0 := lt_of_succ_le hsz); (try (have hs1 := lt_pred hsz; (try (have hs2 := lt_pred hs1; (try (have hs3 := lt_pred hs2; (try have hs4 := lt_pred hs3)))))))) | (go_at_call 115; refine (c_spec_l01In _ _ _ _).mono ?_; rintro e w' ⟨rfl, rfl⟩))
  all_goals
    go_ret
    exact ⟨ret_bool (by simp_all [taintB]), (by repeat (first | (with_reducible exact Below.refl _ _) | (with_reducible refine ext_alloc ?_) | ((with_reducible refine ext_setCell ?_ ?_); focus (simp; (try omega))) | (with_reducible refine below_drewN ?_ _) | (with_reducible refine Below.drew ?_) | (with_reducible (apply ext_step; assumption))))⟩
theorem c_impl_ToleranceOk (k : ByteArray) (q : Bool) (v : ByteArray) (x : Int) (w : World) (h1 : k.size ≤ 9223372036854775807) (h2 : v.size ≤ 9223372036854775807) : Calls Try.prog 65 #[.agg #[.string k, .bool q, .string v, .int .i64 x]] w fun e w' => e = .returned (.bool (tolB k q v x)) ∧ Below w.heap.size w w' := by
  go_enter Try.func65, Try.ntmps65
  go_wp2_with (first | (go_at_call 110; refine (c_impl_LabelKeyOk _ _ (by omega)).mono ?_; rintro e w1 ⟨rfl, rfl⟩) | (go_at_call 111; refine (c_impl_LabelValueOk _ _ (by omega)).mono ?_; rintro e w1 ⟨rfl, rfl⟩) | (go_at_call 112; refine (c_impl_within _ _ _ _).mono ?_; rintro e w' ⟨rfl, rfl⟩))
  all_goals
    go_ret
    exact ⟨ret_bool (by simp_all [tolB]), (by repeat (first | (with_reducible exact Below.refl _ _) | (with_reducible refine ext_alloc ?_) | ((with_reducible refine ext_setCell ?_ ?_); focus (simp; (try omega))) | (with_reducible refine below_drewN ?_ _) | (with_reducible refine Below.drew ?_) | (with_reducible (apply ext_step; assumption))))⟩
theorem c_spec_ToleranceOk (k : ByteArray) (q : Bool) (v : ByteArray) (x : Int) (w : World) (h1 : k.size ≤ 9223372036854775807) (h2 : v.size ≤ 9223372036854775807) : Calls Try.prog 66 #[.agg #[.string k, .bool q, .string v, .int .i64 x]] w fun e w' => e = .returned (.bool (tolB k q v x)) ∧ Below w.heap.size w w' := by
  go_enter Try.func66, Try.ntmps66
  go_wp2_with (first | (go_at_call 113; refine (c_spec_LabelKeyOk _ _ (by omega)).mono ?_; rintro e w1 ⟨rfl, hb⟩; (first | (have hcu2 := Cum.join hcu hb; (try clear hcu); (try clear hc); (try clear hfz); (try clear hsz); (try clear hs0); (try clear hs1); (try clear hs2); (try clear hs3); (try clear hs4); ) | have hcu2 := Cum.mk hb); have hcu := hcu2; clear hcu2; obtain ⟨hc, hfz⟩ := bcell hcu.h; have hsz := hcu.h.size; (try simp at hsz); (try have hs0 := lt_of_succ_le hsz); (try (have hs1 := lt_pred hsz; (try (have hs2 := lt_pred hs1; (try (have hs3 := lt_pred hs2; (try have hs4 := lt_pred hs3)))))))) | (go_at_call 114; refine (c_spec_LabelValueOk _ _ (by omega)).mono ?_; rintro e w1 ⟨rfl, hb⟩; (first | (have hcu2 := Cum.join hcu hb; (try clear hcu); (try clear hc); (try clear hfz); (try clear hsz); (try clear hs0); (try clear hs1); (try clear hs2); (try clear hs3); (try clear hs4); ) | have hcu2 := Cum.mk hb); have hcu := hcu2; clear hcu2; obtain ⟨hc, hfz⟩ := bcell hcu.h; have hsz := hcu.h.size; (try simp at hsz); (try have hs0 := lt_of_succ_le hsz); (try (have hs1 := lt_pred hsz; (try (have hs2 := lt_pred hs1; (try (have hs3 := lt_pred hs2; (try have hs4 := lt_pred hs3)))))))) | (go_at_call 115; refine (c_spec_l01In _ _ _ _).mono ?_; rintro e w' ⟨rfl, rfl⟩))
  all_goals
    go_ret
    exact ⟨ret_bool (by simp_all [tolB, lvB, Bool.or_comm]), (by repeat (first | (with_reducible exact Below.refl _ _) | (with_reducible refine ext_alloc ?_) | ((with_reducible refine ext_setCell ?_ ?_); focus (simp; (try omega))) | (with_reducible refine below_drewN ?_ _) | (with_reducible refine Below.drew ?_) | (with_reducible (apply ext_step; assumption))))⟩
end Go.Proofs.Ytmhlnbihppojmaa
