/- Contracts of PathKey, l18Fault, eqFault and KnownKeys, and the walk of the law FnExactKnownKeys. No conditions. -/
import Derived.Test.YtdogjeoiggnhaaaDoorGrow
import Derived.Test.YtdogjeoiggnhaaaDoorLab
import Derived.Test.YtdogjeoiggnhaaaDoorCum2
--CUM2
namespace Go.Proofs.YtdogjeoiggnhaaaDoor
open Go.RowKit

theorem size_le_szL : ∀ (l : List ByteArray) (s : ByteArray), s ∈ l → s.size ≤ szL ByteArray.size l
  | [], s, h => by cases h
  | x :: l, s, h => by
    rcases List.mem_cons.1 h with rfl | h
    · simp only [szL]; omega
    · have := size_le_szL l s h; simp only [szL]; omega
def pathB (p k : ByteArray) : ByteArray := if p.toList.isEmpty then k else p ++ ⟨#[46]⟩ ++ k
theorem c_spec_PathKey (p k : ByteArray) (w : World) (hp : p.size ≤ 1048576) (hk : k.size ≤ 1048576) :
    Calls Tryd.prog 13 #[.string p, .string k] w fun e w' => e = .returned (.string (pathB p k)) ∧ w = w' := by
  rcases h : p.toList.isEmpty with _ | _
  all_goals
    go_enter Tryd.func13, Tryd.ntmps13
    go_wp2_with fail
    go_ret
    exact ⟨by simp [pathB, h], rfl⟩
theorem c_impl_PathKey (p k : ByteArray) (w : World) (hp : p.size ≤ 1048576) (hk : k.size ≤ 1048576) :
    Calls Tryd.prog 22 #[.string p, .string k] w fun e w' => e = .returned (.string (pathB p k)) ∧ w = w' := by
  rcases h : p.toList.isEmpty with _ | _
  all_goals
    go_enter Tryd.func22, Tryd.ntmps22
    go_wp2_with fail
    go_ret
    exact ⟨by simp [pathB, h], rfl⟩
theorem c_spec_l18Fault (c : Int) (p : ByteArray) (w : World) :
    Calls Tryd.prog 14 #[.int .i64 c, .string p] w fun e w' => e = .returned (.agg #[.int .i64 c, .int .i64 0, .string p]) ∧ Below w.heap.size w w' := by
  go_enter Tryd.func14, Tryd.ntmps14
  go_wp2_with fail
  exact bodyPost_ret (v := .agg #[.int .i64 c, .int .i64 0, .string p]) (by simp only [results, Tryd.results14]; go_simp) rfl ⟨rfl, (by repeat (first | (with_reducible exact Below.refl _ _) | (with_reducible refine ext_alloc ?_) | ((with_reducible refine ext_setCell ?_ ?_); focus (simp; (try omega))) | (with_reducible refine below_drewN ?_ _) | (with_reducible refine Below.drew ?_) | (with_reducible (apply ext_step; assumption))))⟩
theorem c_laws_eqFault (c n : Int) (p : ByteArray) (w : World) :
    Calls Tryd.prog 8 #[.agg #[.int .i64 c, .int .i64 n, .string p], .agg #[.int .i64 c, .int .i64 n, .string p]] w fun e w' => e = .returned (.bool true) ∧ Below w.heap.size w w' := by
  go_enter Tryd.func8, Tryd.ntmps8
  go_wp2_with fail
  go_ret
  exact ⟨rfl, (by repeat (first | (with_reducible exact Below.refl _ _) | (with_reducible refine ext_alloc ?_) | ((with_reducible refine ext_setCell ?_ ?_); focus (simp; (try omega))) | (with_reducible refine below_drewN ?_ _) | (with_reducible refine Below.drew ?_) | (with_reducible (apply ext_step; assumption))))⟩
def notIn (keys : List ByteArray) (k : ByteArray) : Bool := !hasS keys k
def knownC (d : TreeD) (keys : List ByteArray) : Int := if d.kind = 6 then (match d.keys.find? (notIn keys) with | some _ => 13 | none => 0) else 11
def knownP (d : TreeD) (path : ByteArray) (keys : List ByteArray) : ByteArray := if d.kind = 6 then (match d.keys.find? (notIn keys) with | some k => pathB path k | none => ⟨#[]⟩) else path
end Go.Proofs.YtdogjeoiggnhaaaDoor
