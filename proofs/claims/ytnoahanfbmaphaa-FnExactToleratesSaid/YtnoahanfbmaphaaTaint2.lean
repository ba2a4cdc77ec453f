/- Contracts of Tolerates, and of the laws' own functions on one taint and one tolerance. No conditions. -/
import Derived.Test.YtnoahanfbmaphaaTaint1
namespace Go.Proofs.Ytnoahanfbmaphaa
open Go.RowKit

theorem c_impl_Tolerates (k : ByteArray) (q : Bool) (v : ByteArray) (x : Int) (xk xv : ByteArray) (xe : Int) (w : World) (h1 : k.size ≤ 9223372036854775807) (h2 : v.size ≤ 9223372036854775807) (h3 : xk.size ≤ 9223372036854775807) (h4 : xv.size ≤ 9223372036854775807) :
    Calls Try.prog 24 #[.agg #[.string k, .bool q, .string v, .int .i64 x], .agg #[.string xk, .string xv, .int .i64 xe]] w fun e w' => e = .returned (.bool (tolsB k q v x xk xv xe)) ∧ Below w.heap.size w w' := by
  go_enter Try.func24, Try.ntmps24
  go_wp2_with (first | (go_at_call 22; refine (c_impl_ToleranceOk _ _ _ _ _ (by omega) (by omega)).mono ?_; rintro e w1 ⟨rfl, hb2⟩; (try (replace hb2 := ext_join hb hb2; clear hb hc hfz hsz; (try clear hs0); (try clear hs1); (try clear hs2); (try clear hs3); (try clear hs4))); have hb := hb2; clear hb2; obtain ⟨hc, hfz⟩ := bcell hb; have hsz := hb.size; (try simp at hsz); (try have hs0 := lt_of_succ_le hsz); (try (have hs1 := lt_pred hsz; (try (have hs2 := lt_pred hs1; (try (have hs3 := lt_pred hs2; (try have hs4 := lt_pred hs3)))))))) | (go_at_call 18; refine (c_impl_TaintOk _ _ _ _ (by omega) (by omega)).mono ?_; rintro e w1 ⟨rfl, hb2⟩; (try (replace hb2 := ext_join hb hb2; clear hb hc hfz hsz; (try clear hs0); (try clear hs1); (try clear hs2); (try clear hs3); (try clear hs4))); have hb := hb2; clear hb2; obtain ⟨hc, hfz⟩ := bcell hb; have hsz := hb.size; (try simp at hsz); (try have hs0 := lt_of_succ_le hsz); (try (have hs1 := lt_pred hsz; (try (have hs2 := lt_pred hs1; (try (have hs3 := lt_pred hs2; (try have hs4 := lt_pred hs3)))))))))
  all_goals
    go_ret
    exact ⟨ret_bool (by simp_all [tolsB]), (by repeat (first | exact Below.refl _ _ | refine Below.alloc ?_ (by simp; try omega) _ | refine Below.setCell ?_ (by simp; try omega) _ | refine below_drewN ?_ _ | refine Below.drew ?_ | (apply below_step; assumption; (simp; (try omega)))))⟩
theorem c_spec_Tolerates (k : ByteArray) (q : Bool) (v : ByteArray) (x : Int) (xk xv : ByteArray) (xe : Int) (w : World) (h1 : k.size ≤ 9223372036854775807) (h2 : v.size ≤ 9223372036854775807) (h3 : xk.size ≤ 9223372036854775807) (h4 : xv.size ≤ 9223372036854775807) :
    Calls Try.prog 23 #[.agg #[.string k, .bool q, .string v, .int .i64 x], .agg #[.string xk, .string xv, .int .i64 xe]] w fun e w' => e = .returned (.bool (tolsB k q v x xk xv xe)) ∧ Below w.heap.size w w' := by
  go_enter Try.func23, Try.ntmps23
  go_wp2_with (first | (go_at_call 20; refine (c_spec_ToleranceOk _ _ _ _ _ (by omega) (by omega)).mono ?_; rintro e w1 ⟨rfl, hb2⟩; (try (replace hb2 := ext_join hb hb2; clear hb hc hfz hsz; (try clear hs0); (try clear hs1); (try clear hs2); (try clear hs3); (try clear hs4))); have hb := hb2; clear hb2; obtain ⟨hc, hfz⟩ := bcell hb; have hsz := hb.size; (try simp at hsz); (try have hs0 := lt_of_succ_le hsz); (try (have hs1 := lt_pred hsz; (try (have hs2 := lt_pred hs1; (try (have hs3 := lt_pred hs2; (try have hs4 := lt_pred hs3)))))))) | (go_at_call 16; refine (c_spec_TaintOk _ _ _ _ (by omega) (by omega)).mono ?_; rintro e w1 ⟨rfl, hb2⟩; (try (replace hb2 := ext_join hb hb2; clear hb hc hfz hsz; (try clear hs0); (try clear hs1); (try clear hs2); (try clear hs3); (try clear hs4))); have hb := hb2; clear hb2; obtain ⟨hc, hfz⟩ := bcell hb; have hsz := hb.size; (try simp at hsz); (try have hs0 := lt_of_succ_le hsz); (try (have hs1 := lt_pred hsz; (try (have hs2 := lt_pred hs1; (try (have hs3 := lt_pred hs2; (try have hs4 := lt_pred hs3)))))))))
  all_goals
    go_ret
    exact ⟨ret_bool (by simp_all [tolsB]), (by repeat (first | exact Below.refl _ _ | refine Below.alloc ?_ (by simp; try omega) _ | refine Below.setCell ?_ (by simp; try omega) _ | refine below_drewN ?_ _ | refine Below.drew ?_ | (apply below_step; assumption; (simp; (try omega)))))⟩

def szI (left : Int) (n : Nat) : Int := if (n : Int) ≤ left then left - n else -1

theorem c_laws_szTaint (k v : ByteArray) (x : Int) (left : Int) (w : World) (h1 : k.size ≤ 9223372036854775807) (h2 : v.size ≤ 9223372036854775807) (h3 : 0 ≤ left) (h4 : left ≤ 1048576) :
    Calls Try.prog 15 #[.agg #[.string k, .string v, .int .i64 x], .int .i64 left] w fun e w' => e = .returned (.int .i64 (szI left (k.size + v.size))) ∧ Below w.heap.size w w' := by
  by_cases ha : left - k.size < 0
  · have Hf := Lib.hid (show szI left (k.size + v.size) = -1 by unfold szI; rw [if_neg (by omega)])
    go_enter Try.func15, Try.ntmps15
    go_wp2_with fail
    go_ret
    exact ⟨ret_int Hf.out.symm, (by repeat (first | exact Below.refl _ _ | refine Below.alloc ?_ (by simp; try omega) _ | refine Below.setCell ?_ (by simp; try omega) _ | refine below_drewN ?_ _ | refine Below.drew ?_ | (apply below_step; assumption; (simp; (try omega)))))⟩
  · by_cases hb : left - k.size - v.size < 0
    · have Hf := Lib.hid (show szI left (k.size + v.size) = -1 by unfold szI; rw [if_neg (by omega)])
      go_enter Try.func15, Try.ntmps15
      go_wp2_with fail
      go_ret
      exact ⟨ret_int Hf.out.symm, (by repeat (first | exact Below.refl _ _ | refine Below.alloc ?_ (by simp; try omega) _ | refine Below.setCell ?_ (by simp; try omega) _ | refine below_drewN ?_ _ | refine Below.drew ?_ | (apply below_step; assumption; (simp; (try omega)))))⟩
    · have Hf := Lib.hid (show szI left (k.size + v.size) = left - k.size - v.size by unfold szI; rw [if_pos (by omega)]; omega)
      go_enter Try.func15, Try.ntmps15
      go_wp2_with fail
      go_ret
      exact ⟨ret_int Hf.out.symm, (by repeat (first | exact Below.refl _ _ | refine Below.alloc ?_ (by simp; try omega) _ | refine Below.setCell ?_ (by simp; try omega) _ | refine below_drewN ?_ _ | refine Below.drew ?_ | (apply below_step; assumption; (simp; (try omega)))))⟩
theorem c_laws_szTolerance (k : ByteArray) (q : Bool) (v : ByteArray) (x : Int) (left : Int) (w : World) (h1 : k.size ≤ 9223372036854775807) (h2 : v.size ≤ 9223372036854775807) (h3 : 0 ≤ left) (h4 : left ≤ 1048576) :
    Calls Try.prog 19 #[.agg #[.string k, .bool q, .string v, .int .i64 x], .int .i64 left] w fun e w' => e = .returned (.int .i64 (szI left (k.size + v.size))) ∧ Below w.heap.size w w' := by
  by_cases ha : left - k.size < 0
  · have Hf := Lib.hid (show szI left (k.size + v.size) = -1 by unfold szI; rw [if_neg (by omega)])
    go_enter Try.func19, Try.ntmps19
    go_wp2_with fail
    go_ret
    exact ⟨ret_int Hf.out.symm, (by repeat (first | exact Below.refl _ _ | refine Below.alloc ?_ (by simp; try omega) _ | refine Below.setCell ?_ (by simp; try omega) _ | refine below_drewN ?_ _ | refine Below.drew ?_ | (apply below_step; assumption; (simp; (try omega)))))⟩
  · by_cases hb : left - k.size - v.size < 0
    · have Hf := Lib.hid (show szI left (k.size + v.size) = -1 by unfold szI; rw [if_neg (by omega)])
      go_enter Try.func19, Try.ntmps19
      go_wp2_with fail
      go_ret
      exact ⟨ret_int Hf.out.symm, (by repeat (first | exact Below.refl _ _ | refine Below.alloc ?_ (by simp; try omega) _ | refine Below.setCell ?_ (by simp; try omega) _ | refine below_drewN ?_ _ | refine Below.drew ?_ | (apply below_step; assumption; (simp; (try omega)))))⟩
    · have Hf := Lib.hid (show szI left (k.size + v.size) = left - k.size - v.size by unfold szI; rw [if_pos (by omega)]; omega)
      go_enter Try.func19, Try.ntmps19
      go_wp2_with fail
      go_ret
      exact ⟨ret_int Hf.out.symm, (by repeat (first | exact Below.refl _ _ | refine Below.alloc ?_ (by simp; try omega) _ | refine Below.setCell ?_ (by simp; try omega) _ | refine below_drewN ?_ _ | refine Below.drew ?_ | (apply below_step; assumption; (simp; (try omega)))))⟩
theorem c_laws_toTaint (k v : ByteArray) (x : Int) (w : World) :
    Calls Try.prog 17 #[.agg #[.string k, .string v, .int .i64 x]] w fun e w' => e = .returned (.agg #[.string k, .string v, .int .i64 x]) ∧ Below w.heap.size w w' := by
  go_enter Try.func17, Try.ntmps17
  go_wp2_with fail
  exact bodyPost_ret (v := .agg #[.string k, .string v, .int .i64 x]) (by simp [results, Try.results17, go_sem]) rfl ⟨rfl, (by repeat (first | exact Below.refl _ _ | refine Below.alloc ?_ (by simp; try omega) _ | refine Below.setCell ?_ (by simp; try omega) _ | refine below_drewN ?_ _ | refine Below.drew ?_ | (apply below_step; assumption; (simp; (try omega)))))⟩
theorem c_laws_toTolerance (k : ByteArray) (q : Bool) (v : ByteArray) (x : Int) (w : World) :
    Calls Try.prog 21 #[.agg #[.string k, .bool q, .string v, .int .i64 x]] w fun e w' => e = .returned (.agg #[.string k, .bool q, .string v, .int .i64 x]) ∧ Below w.heap.size w w' := by
  go_enter Try.func21, Try.ntmps21
  go_wp2_with fail
  exact bodyPost_ret (v := .agg #[.string k, .bool q, .string v, .int .i64 x]) (by simp [results, Try.results21, go_sem]) rfl ⟨rfl, (by repeat (first | exact Below.refl _ _ | refine Below.alloc ?_ (by simp; try omega) _ | refine Below.setCell ?_ (by simp; try omega) _ | refine below_drewN ?_ _ | refine Below.drew ?_ | (apply below_step; assumption; (simp; (try omega)))))⟩
end Go.Proofs.Ytnoahanfbmaphaa
