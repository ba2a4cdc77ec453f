/- Contracts of PathKey, l18Fault, eqFault and KnownKeys, and the walk of the law FnExactKnownKeys. No conditions. -/
import Derived.Test.YtipogknfbofbkaaGrow
import Derived.Test.YtipogknfbofbkaaLab
import Derived.Test.YtipogknfbofbkaaCum2
--CUM2
namespace Go.Proofs.Ytipogknfbofbkaa
open Go.RowKit

theorem size_le_szL : ∀ (l : List ByteArray) (s : ByteArray), s ∈ l → s.size ≤ szL ByteArray.size l
  | [], s, h => by cases h
  | x :: l, s, h => by
    rcases List.mem_cons.1 h with rfl | h
    · simp only [szL]; omega
    · have := size_le_szL l s h; simp only [szL]; omega
theorem row3 {w : World} {b : Nat} {a0 a1 a2 : Value} {e : TypeId} (hr : w.heap[b]? = some (.cells #[a0, a1, a2] e (0, 0))) :
    w.cell? ⟨b, 0, none⟩ = some a0 ∧ w.cell? ⟨b, 1, none⟩ = some a1 ∧ w.cell? ⟨b, 2, none⟩ = some a2 ∧ ∀ o, w.frozen? ⟨b, o, none⟩ = false :=
  ⟨by rw [cell_of_row _ _ _ _ _ _ hr]; rfl, by rw [cell_of_row _ _ _ _ _ _ hr]; rfl, by rw [cell_of_row _ _ _ _ _ _ hr]; rfl, fun o => frozen_row hr o⟩
def pathB (p k : ByteArray) : ByteArray := if p.toList.isEmpty then k else p ++ ⟨#[46]⟩ ++ k
theorem c_spec_PathKey (p k : ByteArray) (w : World) (hp : p.size ≤ 1048576) (hk : k.size ≤ 1048576) :
    Calls Try.prog 111 #[.string p, .string k] w fun e w' => e = .returned (.string (pathB p k)) ∧ w = w' := by
  rcases h : p.toList.isEmpty with _ | _
  all_goals
    go_enter Try.func111, Try.ntmps111
    go_wp2_with fail
    go_ret
    exact ⟨by simp [pathB, h], rfl⟩
theorem c_impl_PathKey (p k : ByteArray) (w : World) (hp : p.size ≤ 1048576) (hk : k.size ≤ 1048576) :
    Calls Try.prog 114 #[.string p, .string k] w fun e w' => e = .returned (.string (pathB p k)) ∧ w = w' := by
  rcases h : p.toList.isEmpty with _ | _
  all_goals
    go_enter Try.func114, Try.ntmps114
    go_wp2_with fail
    go_ret
    exact ⟨by simp [pathB, h], rfl⟩
theorem c_spec_l18Fault (c : Int) (p : ByteArray) (w : World) :
    Calls Try.prog 110 #[.int .i64 c, .string p] w fun e w' => e = .returned (.agg #[.int .i64 c, .int .i64 0, .string p]) ∧ Below w.heap.size w w' := by
  go_enter Try.func110, Try.ntmps110
  go_wp2_with fail
  exact bodyPost_ret (v := .agg #[.int .i64 c, .int .i64 0, .string p]) (by simp only [results, Try.results110]; go_simp) rfl ⟨rfl, (by repeat (first | (with_reducible exact Below.refl _ _) | (with_reducible refine ext_alloc ?_) | ((with_reducible refine ext_setCell ?_ ?_); focus (simp; (try omega))) | (with_reducible refine below_drewN ?_ _) | (with_reducible refine Below.drew ?_) | (with_reducible (apply ext_step; assumption))))⟩
theorem c_laws_eqFault (c n : Int) (p : ByteArray) (w : World) :
    Calls Try.prog 55 #[.agg #[.int .i64 c, .int .i64 n, .string p], .agg #[.int .i64 c, .int .i64 n, .string p]] w fun e w' => e = .returned (.bool true) ∧ Below w.heap.size w w' := by
  go_enter Try.func55, Try.ntmps55
  go_wp2_with fail
  go_ret
  exact ⟨rfl, (by repeat (first | (with_reducible exact Below.refl _ _) | (with_reducible refine ext_alloc ?_) | ((with_reducible refine ext_setCell ?_ ?_); focus (simp; (try omega))) | (with_reducible refine below_drewN ?_ _) | (with_reducible refine Below.drew ?_) | (with_reducible (apply ext_step; assumption))))⟩
def notIn (keys : List ByteArray) (k : ByteArray) : Bool := !hasS keys k
def knownC (d : TreeD) (keys : List ByteArray) : Int := if d.kind = 6 then (match d.keys.find? (notIn keys) with | some _ => 13 | none => 0) else 11
def knownP (d : TreeD) (path : ByteArray) (keys : List ByteArray) : ByteArray := if d.kind = 6 then (match d.keys.find? (notIn keys) with | some k => pathB path k | none => ⟨#[]⟩) else path
end Go.Proofs.Ytipogknfbofbkaa
