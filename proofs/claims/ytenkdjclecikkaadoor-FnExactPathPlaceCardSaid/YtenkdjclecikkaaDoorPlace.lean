/- Contracts of PathPlace and the walk of the law FnExactPathPlace, where the library's table of powers is laid. No conditions. -/
import Derived.Test.YtenkdjclecikkaaDoorItoa
import Derived.Test.YtenkdjclecikkaaDoorTypes
namespace Go.Proofs.YtenkdjclecikkaaDoor
open Go.RowKit

theorem dec_len : ∀ (k u : Nat), u < 10 ^ (k + 1) → (Lib.decDigits u).length ≤ k + 1
  | 0, u, h => by
    rw [Lib.decDigits, dif_pos (by simpa using h)]
    simp
  | k + 1, u, h => by
    rw [Lib.decDigits]
    by_cases h10 : u < 10
    · rw [dif_pos h10]; simp
    · rw [dif_neg h10, List.length_append]
      have h2 : u / 10 < 10 ^ (k + 1) := by
        rw [Nat.div_lt_iff_lt_mul (by decide)]
        rw [Nat.pow_succ] at h
        exact h
      have := dec_len k (u / 10) h2
      simp
      omega
theorem decS_size (n : Int) (hn : -9223372036854775808 ≤ n ∧ n ≤ 9223372036854775807) : (decS n).size ≤ 20 := by
  show (Lib.itoa n).toArray.size ≤ 20
  rw [List.size_toArray]
  unfold Lib.itoa
  split
  · have := dec_len 18 n.natAbs (by omega)
    rw [List.length_cons]
    omega
  · have := dec_len 18 n.toNat (by omega)
    omega
def placeP (p : ByteArray) (i : Int) : ByteArray := p ++ ⟨#[91]⟩ ++ decS i ++ ⟨#[93]⟩
theorem c_impl_PathPlace (p : ByteArray) (i : Int) (w : World) (h1 : p.size ≤ 1048576) (hi : -9223372036854775808 ≤ i ∧ i ≤ 9223372036854775807) (hp : Pow w) :
    Calls Tryd.prog 6 #[.string p, .int .i64 i] w fun e w' => e = .returned (.string (placeP p i)) ∧ Below w.heap.size w w' := by
  have Hp := Lib.hid hp
  have hd := decS_size i hi
  have hd1 : (⟨#[91]⟩ : ByteArray).size = 1 := rfl
  have hd3 : (p ++ ⟨#[91]⟩).size ≤ 1048577 := by rw [ByteArray.size_append, hd1]; omega
  have hd4 : (p ++ ⟨#[91]⟩ ++ decS i).size ≤ 1048597 := by rw [ByteArray.size_append]; omega
  clear hp hd1
  go_enter Tryd.func6, Tryd.ntmps6
  go_wp2_with fail
  refine (c_impl_Decimal i _ hi Hp.out).mono ?_
  rintro e w1 ⟨rfl, hb⟩
  go_wp2_with fail
  go_ret
  exact ⟨rfl, hb⟩
theorem c_spec_PathPlace (p : ByteArray) (i : Int) (w : World) (h1 : p.size ≤ 1048576) (hi : -9223372036854775808 ≤ i ∧ i ≤ 9223372036854775807) :
    Calls Tryd.prog 5 #[.string p, .int .i64 i] w fun e w' => e = .returned (.string (placeP p i)) ∧ Below w.heap.size w w' := by
  have hd := decS_size i hi
  have hd1 : (⟨#[91]⟩ : ByteArray).size = 1 := rfl
  have hd3 : (p ++ ⟨#[91]⟩).size ≤ 1048577 := by rw [ByteArray.size_append, hd1]; omega
  have hd4 : (p ++ ⟨#[91]⟩ ++ decS i).size ≤ 1048597 := by rw [ByteArray.size_append]; omega
  clear hd1
  go_enter Tryd.func5, Tryd.ntmps5
  go_wp2_with fail
  refine (c_spec_Decimal i _ hi).mono ?_
  rintro e w1 ⟨rfl, hb⟩
  go_wp2_with fail
  go_ret
  exact ⟨rfl, hb⟩
set_option maxHeartbeats 1000000 in
theorem w_FnExactPathPlace (d0 : ByteArray) (v0 : Value) (d1 : Int) (v1 : Value) (w : World) (h0 : R_Str w d0 v0) (h1 : R_Int w d1 v1) (hp : Pow w) :
    Calls Tryd.prog 3 #[v0, v1] w fun e w' => e = .returned (.bool true) ∧ Below w.heap.size w w' := by
  obtain ⟨rfl, hs⟩ := h0
  obtain ⟨rfl, hi⟩ := h1
  have Hp := Lib.hid hp
  clear hp
  by_cases hq : d0.size ≤ 1048576
  · have hq1 : ¬ (1048576 : Int) < d0.size := by omega
    go_enter Tryd.func3, Tryd.ntmps3
    go_wp2_with fail
    refine (c_spec_PathPlace d0 d1 _ hq hi).mono ?_
    rintro e w1 ⟨rfl, hb1⟩
    go_wp2_with fail
    refine (c_impl_PathPlace d0 d1 _ hq hi (Hp.out.below hb1)).mono ?_
    rintro e w2 ⟨rfl, hb2⟩
    go_wp2_with fail
    go_ret
    exact ⟨rfl, ext_trans hb1 hb2⟩
  · have hq1 : (1048576 : Int) < d0.size := by omega
    go_enter Tryd.func3, Tryd.ntmps3
    go_wp2_with fail
    go_ret
    exact ⟨rfl, Below.refl _ _⟩
end Go.Proofs.YtenkdjclecikkaaDoor
