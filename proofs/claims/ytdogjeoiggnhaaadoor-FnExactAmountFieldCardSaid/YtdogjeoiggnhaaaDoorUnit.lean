/- Contracts of MulInt, PowInt, Suffixes and UnitOf, of both. No conditions. -/
import Derived.Test.YtdogjeoiggnhaaaDoorKey
import Derived.Test.YtdogjeoiggnhaaaDoorDet
namespace Go.Proofs.YtdogjeoiggnhaaaDoor
open Go.RowKit

def mulB (a b : Int) : Bool := decide (0 ≤ a) && decide (0 ≤ b) && decide (a * b ≤ 9223372036854775807)
def mulV (a b : Int) : Int := if mulB a b then a * b else 0
theorem mulB_comm (a b : Int) : mulB a b = mulB b a := by unfold mulB; rw [Int.mul_comm, Bool.and_comm (decide (0 ≤ a))]
theorem mulV_comm (a b : Int) : mulV a b = mulV b a := by unfold mulV; rw [mulB_comm, Int.mul_comm]
theorem mul_over {a b : Int} (hb : 0 < b) : 9223372036854775807 / b < a ↔ 9223372036854775807 < a * b := Int.ediv_lt_iff_lt_mul hb
theorem mulB_true {a b : Int} (ha : 0 ≤ a) (hb : 0 ≤ b) (h : a * b ≤ 9223372036854775807) : mulB a b = true := by unfold mulB; rw [decide_eq_true ha, decide_eq_true hb, decide_eq_true h]; rfl
theorem mulB_false {a b : Int} (h : ¬ a * b ≤ 9223372036854775807) : mulB a b = false := by unfold mulB; rw [decide_eq_false h, Bool.and_false]
theorem mulV_true {a b : Int} (h : mulB a b = true) : mulV a b = a * b := by unfold mulV; rw [if_pos h]
theorem mulV_false {a b : Int} (h : mulB a b = false) : mulV a b = 0 := by unfold mulV; rw [h]; rfl
theorem i64_min : I64 (-9223372036854775808) := by unfold I64; omega
theorem mulV_range (a b : Int) : 0 ≤ mulV a b ∧ mulV a b ≤ 9223372036854775807 := by
  unfold mulV
  split
  · rename_i h
    unfold mulB at h
    simp at h
    exact ⟨Int.mul_nonneg h.1.1 h.1.2, h.2⟩
  · omega
set_option maxHeartbeats 1000000 in
theorem c_impl_MulInt (a b : Int) (w : World) (ha : I64 a) (hb : I64 b) :
    Calls Tryd.prog 21 #[.int .i64 a, .int .i64 b] w fun e w' => e = .returned (.tuple #[.int .i64 (mulV a b), .bool (mulB a b)]) ∧ w = w' := by
  unfold I64 at ha hb
  by_cases h1 : a < 0
  · have H1 := Lib.hid (show mulB a b = false by unfold mulB; rw [decide_eq_false (show ¬ 0 ≤ a by omega)]; rfl)
    have H2 := Lib.hid (mulV_false H1.out)
    go_enter Tryd.func21, Tryd.ntmps21
    go_wp2_with fail
    go_ret2
    exact ⟨by rw [H1.out, H2.out]; rfl, rfl⟩
  · by_cases h2 : b < 0
    · have H1 := Lib.hid (show mulB a b = false by unfold mulB; rw [decide_eq_false (show ¬ 0 ≤ b by omega), Bool.and_false]; rfl)
      have H2 := Lib.hid (mulV_false H1.out)
      go_enter Tryd.func21, Tryd.ntmps21
      go_wp2_with fail
      go_ret2
      exact ⟨by rw [H1.out, H2.out]; rfl, rfl⟩
    · by_cases h3 : 0 < b
      · have hq0 : (0 : Int) ≤ 9223372036854775807 / b := Int.ediv_nonneg (by omega) (by omega)
        have hq1 : (9223372036854775807 : Int) / b ≤ 9223372036854775807 := Int.ediv_le_self _ (by omega)
        have hb0 : (b == 0) = false := beq_eq_false_iff_ne.2 (by omega)
        have hbn : ¬ b = 0 := by omega
        have hb00 : 0 ≤ b := by omega
        have ha00 : 0 ≤ a := by omega
        have Hov := Lib.hid (mul_over (a := a) h3)
        have Hn := Lib.hid (Int.mul_nonneg ha00 hb00)
        by_cases h4 : 9223372036854775807 / b < a
        · have H1 := Lib.hid (mulB_false (a := a) (b := b) (by have := Hov.out.1 h4; omega))
          have H2 := Lib.hid (mulV_false H1.out)
          have d4 : decide (9223372036854775807 / b < a) = true := decide_eq_true h4
          clear h4
          go_enter Tryd.func21, Tryd.ntmps21
          go_wp2_with fail
          go_ret2
          exact ⟨by rw [H1.out, H2.out]; rfl, rfl⟩
        · have hle : a * b ≤ 9223372036854775807 := by
            rcases Int.lt_or_le 9223372036854775807 (a * b) with h | h
            · exact absurd (Hov.out.2 h) h4
            · exact h
          have hge := Hn.out
          have H1 := Lib.hid (mulB_true ha00 hb00 hle)
          have H2 := Lib.hid (mulV_true H1.out)
          have d4 : decide (9223372036854775807 / b < a) = false := decide_eq_false h4
          clear h4
          go_enter Tryd.func21, Tryd.ntmps21
          go_wp2_with fail
          go_ret2
          exact ⟨by rw [H1.out, H2.out]; rfl, rfl⟩
      · obtain rfl : b = 0 := by omega
        have H1 := Lib.hid (mulB_true (a := a) (b := 0) (by omega) (by omega) (by omega))
        have H2 := Lib.hid ((mulV_true H1.out).trans (Int.mul_zero a))
        clear h2 h3
        go_enter Tryd.func21, Tryd.ntmps21
        go_wp2_with fail
        go_ret2
        exact ⟨by rw [H1.out, H2.out]; rfl, rfl⟩
set_option maxHeartbeats 1000000 in
theorem c_spec_MulInt (a b : Int) (w : World) (ha : I64 a) (hb : I64 b) :
    Calls Tryd.prog 16 #[.int .i64 a, .int .i64 b] w fun e w' => e = .returned (.tuple #[.int .i64 (mulV a b), .bool (mulB a b)]) ∧ w = w' := by
  unfold I64 at ha hb
  by_cases h1 : a < 0
  · have H1 := Lib.hid (show mulB a b = false by unfold mulB; rw [decide_eq_false (show ¬ 0 ≤ a by omega)]; rfl)
    have H2 := Lib.hid (mulV_false H1.out)
    go_enter Tryd.func16, Tryd.ntmps16
    go_wp2_with fail
    go_ret2
    exact ⟨by rw [H1.out, H2.out]; rfl, rfl⟩
  · by_cases h2 : b < 0
    · have H1 := Lib.hid (show mulB a b = false by unfold mulB; rw [decide_eq_false (show ¬ 0 ≤ b by omega), Bool.and_false]; rfl)
      have H2 := Lib.hid (mulV_false H1.out)
      go_enter Tryd.func16, Tryd.ntmps16
      go_wp2_with fail
      go_ret2
      exact ⟨by rw [H1.out, H2.out]; rfl, rfl⟩
    · by_cases h3 : 0 < b
      · have hq0 : (0 : Int) ≤ 9223372036854775807 / b := Int.ediv_nonneg (by omega) (by omega)
        have hq1 : (9223372036854775807 : Int) / b ≤ 9223372036854775807 := Int.ediv_le_self _ (by omega)
        have hb0 : (b == 0) = false := beq_eq_false_iff_ne.2 (by omega)
        have hbn : ¬ b = 0 := by omega
        have hb00 : 0 ≤ b := by omega
        have ha00 : 0 ≤ a := by omega
        have Hov := Lib.hid (mul_over (a := a) h3)
        have Hn := Lib.hid (Int.mul_nonneg ha00 hb00)
        by_cases h4 : 9223372036854775807 / b < a
        · have H1 := Lib.hid (mulB_false (a := a) (b := b) (by have := Hov.out.1 h4; omega))
          have H2 := Lib.hid (mulV_false H1.out)
          have d4 : decide (9223372036854775807 / b < a) = true := decide_eq_true h4
          clear h4
          go_enter Tryd.func16, Tryd.ntmps16
          go_wp2_with fail
          go_ret2
          exact ⟨by rw [H1.out, H2.out]; rfl, rfl⟩
        · have hle : a * b ≤ 9223372036854775807 := by
            rcases Int.lt_or_le 9223372036854775807 (a * b) with h | h
            · exact absurd (Hov.out.2 h) h4
            · exact h
          have hge := Hn.out
          have H1 := Lib.hid (mulB_true ha00 hb00 hle)
          have H2 := Lib.hid (mulV_true H1.out)
          have d4 : decide (9223372036854775807 / b < a) = false := decide_eq_false h4
          clear h4
          go_enter Tryd.func16, Tryd.ntmps16
          go_wp2_with fail
          go_ret2
          exact ⟨by rw [H1.out, H2.out]; rfl, rfl⟩
      · obtain rfl : b = 0 := by omega
        have H1 := Lib.hid (mulB_true (a := a) (b := 0) (by omega) (by omega) (by omega))
        have H2 := Lib.hid ((mulV_true H1.out).trans (Int.mul_zero a))
        clear h2 h3
        go_enter Tryd.func16, Tryd.ntmps16
        go_wp2_with fail
        go_ret2
        exact ⟨by rw [H1.out, H2.out]; rfl, rfl⟩
set_option maxHeartbeats 1000000 in
theorem c_impl_PowInt (b n : Nat) (z y r : Int) (w : World) (hz : z = b) (hy : y = n) (hr : r = ((b ^ n : Nat) : Int)) (hb : 1 ≤ b) (hn : n ≤ 100) (h : b ^ n ≤ 9223372036854775807) :
    Calls Tryd.prog 42 #[.int .i64 z, .int .i64 y] w fun e w' => e = .returned (.tuple #[.int .i64 r, .bool true]) ∧ w = w' := by
  subst hz hy
  have Hr := Lib.hid hr
  have hb9 : n = 0 ∨ b ≤ 9223372036854775807 := by
    rcases n with _ | n
    · exact .inl rfl
    · have h1 : b ^ 1 ≤ b ^ (n + 1) := Nat.pow_le_pow_right hb (by omega)
      rw [Nat.pow_one] at h1
      omega
  have Hpow := Lib.hid (fun (k : Nat) (hk : k ≤ n) => Nat.le_trans (Nat.pow_le_pow_right hb hk) h)
  clear hr h
  go_enter Tryd.func42, Tryd.ntmps42
  go_wp2_with fail
  go_loopw [6, 20] (fun s6 s20 wr => ∃ (k : Nat) (x : Nat), k ≤ n ∧ s20 = .int .i64 k ∧ s6 = .int .i64 x ∧ x = b ^ k ∧ wr = w) (fun _ s20 _ => n - (intOf s20).toNat)
  case atStart => exact ⟨0, 1, Nat.zero_le _, rfl, rfl, by rw [Nat.pow_zero], rfl⟩
  case round =>
    obtain ⟨k, x, hk, rfl, rfl, hx, rfl⟩ := hrel
    have HX := Lib.hid hx
    have hx9 := Hpow.out k hk
    rw [← hx] at hx9
    clear hx
    by_cases hlt : (k : Int) < n
    · have hb8 : b ≤ 9223372036854775807 := by omega
      have hnx := Hpow.out (k + 1) (by omega)
      have hmul : b ^ (k + 1) = x * b := by rw [Nat.pow_succ, HX.out]
      rw [hmul] at hnx
      have HM := Lib.hid hmul
      have hmi : (x : Int) * b ≤ 9223372036854775807 := by rw [← Int.natCast_mul]; omega
      have hB := mulB_true (a := (x : Int)) (b := (b : Int)) (by omega) (by omega) hmi
      have hV := mulV_true hB
      have HB := Lib.hid hB
      have HV := Lib.hid hV
      clear hB hV hmul
      go_wp2_with (go_at_call 21; refine (c_impl_MulInt _ _ _ (by unfold I64; omega) (by unfold I64; omega)).mono ?_; rintro e w1 ⟨rfl, rfl⟩; rw [HB.out, HV.out])
      go_roundw
      case rel => exact ⟨k + 1, x * b, by omega, by go_num, by rw [Int.natCast_mul], HM.out.symm, by first | rfl | exact True.intro⟩
      case measure => simp [intOf]; omega
    · obtain rfl : k = n := by omega
      go_wp2_with fail
      go_ret2
      exact ⟨by rw [Hr.out, HX.out]; rfl, rfl⟩
theorem c_pow_1000_2 (w : World) : Calls Tryd.prog 42 #[.int .i64 1000, .int .i64 2] w fun e w' => e = .returned (.tuple #[.int .i64 1000000, .bool true]) ∧ w = w' := c_impl_PowInt 1000 2 _ _ _ w rfl rfl rfl (by decide) (by decide) (by decide)
theorem c_pow_1000_3 (w : World) : Calls Tryd.prog 42 #[.int .i64 1000, .int .i64 3] w fun e w' => e = .returned (.tuple #[.int .i64 1000000000, .bool true]) ∧ w = w' := c_impl_PowInt 1000 3 _ _ _ w rfl rfl rfl (by decide) (by decide) (by decide)
theorem c_pow_1000_4 (w : World) : Calls Tryd.prog 42 #[.int .i64 1000, .int .i64 4] w fun e w' => e = .returned (.tuple #[.int .i64 1000000000000, .bool true]) ∧ w = w' := c_impl_PowInt 1000 4 _ _ _ w rfl rfl rfl (by decide) (by decide) (by decide)
theorem c_pow_1000_5 (w : World) : Calls Tryd.prog 42 #[.int .i64 1000, .int .i64 5] w fun e w' => e = .returned (.tuple #[.int .i64 1000000000000000, .bool true]) ∧ w = w' := c_impl_PowInt 1000 5 _ _ _ w rfl rfl rfl (by decide) (by decide) (by decide)
theorem c_pow_1024_1 (w : World) : Calls Tryd.prog 42 #[.int .i64 1024, .int .i64 1] w fun e w' => e = .returned (.tuple #[.int .i64 1024, .bool true]) ∧ w = w' := c_impl_PowInt 1024 1 _ _ _ w rfl rfl rfl (by decide) (by decide) (by decide)
theorem c_pow_1024_2 (w : World) : Calls Tryd.prog 42 #[.int .i64 1024, .int .i64 2] w fun e w' => e = .returned (.tuple #[.int .i64 1048576, .bool true]) ∧ w = w' := c_impl_PowInt 1024 2 _ _ _ w rfl rfl rfl (by decide) (by decide) (by decide)
theorem c_pow_1024_3 (w : World) : Calls Tryd.prog 42 #[.int .i64 1024, .int .i64 3] w fun e w' => e = .returned (.tuple #[.int .i64 1073741824, .bool true]) ∧ w = w' := c_impl_PowInt 1024 3 _ _ _ w rfl rfl rfl (by decide) (by decide) (by decide)
theorem c_pow_1024_4 (w : World) : Calls Tryd.prog 42 #[.int .i64 1024, .int .i64 4] w fun e w' => e = .returned (.tuple #[.int .i64 1099511627776, .bool true]) ∧ w = w' := c_impl_PowInt 1024 4 _ _ _ w rfl rfl rfl (by decide) (by decide) (by decide)
def sufL : List ByteArray := [⟨#[]⟩, ⟨#[109]⟩, ⟨#[107]⟩, ⟨#[77]⟩, ⟨#[71]⟩, ⟨#[84]⟩, ⟨#[75, 105]⟩, ⟨#[77, 105]⟩, ⟨#[71, 105]⟩, ⟨#[84, 105]⟩]
def unitL : List Int := [1000, 1, 1000000, 1000000000, 1000000000000, 1000000000000000, 1024000, 1048576000, 1073741824000, 1099511627776000]
/-- The unit of a suffix; 0: it is none. -/
def unitV (s : ByteArray) : Int := if idxI sufL s < 0 then 0 else (unitL[(idxI sufL s).toNat]?).getD 0
def unitB (s : ByteArray) : Bool := decide (0 ≤ idxI sufL s)
def sufRow : Array Value := #[.string ⟨#[]⟩, .string ⟨#[109]⟩, .string ⟨#[107]⟩, .string ⟨#[77]⟩, .string ⟨#[71]⟩, .string ⟨#[84]⟩, .string ⟨#[75, 105]⟩, .string ⟨#[77, 105]⟩, .string ⟨#[71, 105]⟩, .string ⟨#[84, 105]⟩]
def unitRow : Array Value := #[.int .i64 1000, .int .i64 1, .int .i64 1000000, .int .i64 1000000000, .int .i64 1000000000000, .int .i64 1000000000000000, .int .i64 1024000, .int .i64 1048576000, .int .i64 1073741824000, .int .i64 1099511627776000]
theorem suf_size : ∀ s ∈ sufL, s.size ≤ 9223372036854775807 := by
  intro s hs
  have : s.size ≤ 2 := by
    unfold sufL at hs
    simp at hs
    rcases hs with rfl | rfl | rfl | rfl | rfl | rfl | rfl | rfl | rfl | rfl <;> decide
  omega
theorem suf_strs {w : World} {g : Nat} (h : w.heap[g]? = some (.cells sufRow 9 (0, 0))) : Sl_Str 0 w.heap.size w sufL (.slice (some ⟨g, 0, none⟩) 10 10) := by
  have h1 : w.ownsRow 0 9 1 (.slice (some ⟨g, 0, none⟩) 10 10) sufL.length (sufL.map Value.string) :=
    ⟨rfl, .inr ⟨g, 10, sufRow, rfl, Nat.zero_le _, h, by decide, by decide, rfl, rfl⟩⟩
  exact own_strs h1 suf_size
theorem unit_cell {w : World} {g k : Nat} (h : w.heap[g]? = some (.cells unitRow 3 (0, 0))) (hk : k < 10) : w.cell? ⟨g, k, none⟩ = some (.int .i64 ((unitL[k]?).getD 0)) := by
  rw [cell_of_row _ _ _ _ _ _ h]
  rcases (show k = 0 ∨ k = 1 ∨ k = 2 ∨ k = 3 ∨ k = 4 ∨ k = 5 ∨ k = 6 ∨ k = 7 ∨ k = 8 ∨ k = 9 by omega) with rfl | rfl | rfl | rfl | rfl | rfl | rfl | rfl | rfl | rfl <;> rfl
theorem unit_pos (k : Nat) (hk : k < 10) : 0 ≤ (unitL[k]?).getD 0 ∧ (unitL[k]?).getD 0 ≤ 1099511627776000 := by
  rcases (show k = 0 ∨ k = 1 ∨ k = 2 ∨ k = 3 ∨ k = 4 ∨ k = 5 ∨ k = 6 ∨ k = 7 ∨ k = 8 ∨ k = 9 by omega) with rfl | rfl | rfl | rfl | rfl | rfl | rfl | rfl | rfl | rfl <;> decide
theorem unit_none {s : ByteArray} (h : idxI sufL s = -1) : unitV s = 0 ∧ unitB s = false := by unfold unitV unitB; rw [h]; decide
theorem unit_some {s : ByteArray} {k : Nat} (h : idxI sufL s = (k : Int)) : unitV s = (unitL[k]?).getD 0 ∧ unitB s = true := by
  unfold unitV unitB
  rw [h, if_neg (by omega), Int.toNat_natCast]
  exact ⟨rfl, decide_eq_true (by omega)⟩
theorem unitV_range (s : ByteArray) : 0 ≤ unitV s ∧ unitV s ≤ 1099511627776000 := by
  rcases idxI_cases sufL s with h | ⟨k, hk, h⟩
  · rw [(unit_none h).1]; omega
  · rw [(unit_some h).1]; exact unit_pos k hk
theorem c_impl_Suffixes (w : World) : Calls Tryd.prog 41 #[] w fun e w' => e = .returned (.slice (some ⟨w.heap.size, 0, none⟩) 10 10) ∧ w'.heap[w.heap.size]? = some (.cells sufRow 9 (0, 0)) ∧ Below w.heap.size w w' ∧ w.heap.size < w'.heap.size := by
  go_enter Tryd.func41, Tryd.ntmps41
  go_wp2_with fail
  go_ret
  exact ⟨rfl, heap_at (by simp), (by repeat (first | (with_reducible exact Below.refl _ _) | (with_reducible refine ext_alloc ?_) | ((with_reducible refine ext_setCell ?_ ?_); focus (simp; (try omega))) | (with_reducible refine below_drewN ?_ _) | (with_reducible refine Below.drew ?_) | (with_reducible (apply ext_step; assumption)))), by simp⟩
theorem c_spec_Suffixes (w : World) : Calls Tryd.prog 35 #[] w fun e w' => e = .returned (.slice (some ⟨w.heap.size, 0, none⟩) 10 10) ∧ w'.heap[w.heap.size]? = some (.cells sufRow 9 (0, 0)) ∧ Below w.heap.size w w' ∧ w.heap.size < w'.heap.size := by
  go_enter Tryd.func35, Tryd.ntmps35
  go_wp2_with fail
  go_ret
  exact ⟨rfl, heap_at (by simp), (by repeat (first | (with_reducible exact Below.refl _ _) | (with_reducible refine ext_alloc ?_) | ((with_reducible refine ext_setCell ?_ ?_); focus (simp; (try omega))) | (with_reducible refine below_drewN ?_ _) | (with_reducible refine Below.drew ?_) | (with_reducible (apply ext_step; assumption)))), by simp⟩
set_option maxHeartbeats 2000000 in
theorem c_impl_UnitOf (s : ByteArray) (w : World) : Calls Tryd.prog 33 #[.string s] w fun e w' => e = .returned (.tuple #[.int .i64 (unitV s), .bool (unitB s)]) ∧ Below w.heap.size w w' := by
  rcases idxI_cases sufL s with h | ⟨k, hk, h⟩
  · have Hi := Lib.hid h
    have HU := Lib.hid (unit_none h)
    clear h
    go_enter Tryd.func33, Tryd.ntmps33
    go_wp2_with (first | (go_at_call 41; refine (c_impl_Suffixes _).mono ?_; rintro e w1 ⟨rfl, hrow, hb1, -⟩; have HB1 := Lib.hid hb1; have HRow := Lib.hid hrow; clear hrow hb1) | (go_at_call 37; refine (c_IndexX_Str sufL s _ _ 0 (suf_strs HRow.out)).mono ?_; rintro e w2 ⟨rfl, hb2⟩; rw [Hi.out]; have HB2 := Lib.hid hb2; clear hb2))
    go_ret2
    exact ⟨by rw [HU.out.1, HU.out.2]; rfl, HB1.out.trans (HB2.out.mono HB1.out.size)⟩
  · have hk10 : k < 10 := hk
    have HU := Lib.hid (unit_some h)
    have hcs : k = 0 ∨ k = 1 ∨ k = 2 ∨ k = 3 ∨ k = 4 ∨ k = 5 ∨ k = 6 ∨ k = 7 ∨ k = 8 ∨ k = 9 := by omega
    clear hk hk10
    obtain ⟨z, hz⟩ : ∃ z : Int, z = (k : Int) := ⟨_, rfl⟩
    rw [← hz] at h
    rcases hcs with rfl | rfl | rfl | rfl | rfl | rfl | rfl | rfl | rfl | rfl
    all_goals
      simp at hz
      subst hz
      have Hi := Lib.hid h
      clear h
      go_enter Tryd.func33, Tryd.ntmps33
      go_wp2_with (first | (go_at_call 41; refine (c_impl_Suffixes _).mono ?_; rintro e w1 ⟨rfl, hrow, hb1, -⟩; have HB1 := Lib.hid hb1; have HRow := Lib.hid hrow; clear hrow hb1) | (go_at_call 37; refine (c_IndexX_Str sufL s _ _ 0 (suf_strs HRow.out)).mono ?_; rintro e w2 ⟨rfl, hb2⟩; rw [Hi.out]; have HB2 := Lib.hid hb2; clear hb2) | (go_at_call 42; (first | (with_reducible refine (c_pow_1000_2 _).mono ?_) | (with_reducible refine (c_pow_1000_3 _).mono ?_) | (with_reducible refine (c_pow_1000_4 _).mono ?_) | (with_reducible refine (c_pow_1000_5 _).mono ?_) | (with_reducible refine (c_pow_1024_1 _).mono ?_) | (with_reducible refine (c_pow_1024_2 _).mono ?_) | (with_reducible refine (c_pow_1024_3 _).mono ?_) | (with_reducible refine (c_pow_1024_4 _).mono ?_)); rintro e w9 ⟨rfl, rfl⟩))
      go_ret2
      exact ⟨by rw [HU.out.1, HU.out.2]; rfl, HB1.out.trans (HB2.out.mono HB1.out.size)⟩
set_option maxHeartbeats 2000000 in
theorem c_spec_UnitOf (s : ByteArray) (w : World) : Calls Tryd.prog 28 #[.string s] w fun e w' => e = .returned (.tuple #[.int .i64 (unitV s), .bool (unitB s)]) ∧ Below w.heap.size w w' := by
  go_enter Tryd.func28, Tryd.ntmps28
  go_wp2_with (go_at_call 35; refine (c_spec_Suffixes _).mono ?_; rintro e w1 ⟨rfl, hrow, hb1, hlt1⟩; have HB1 := Lib.hid hb1; have HRow := Lib.hid hrow; clear hrow hb1)
  obtain ⟨W, hW⟩ : ∃ W, W = w1.alloc (.cells unitRow 3) := ⟨_, rfl⟩
  have hWb : Below w1.heap.size w1 W := by rw [hW]; exact (by repeat (first | (with_reducible exact Below.refl _ _) | (with_reducible refine ext_alloc ?_) | ((with_reducible refine ext_setCell ?_ ?_); focus (simp; (try omega))) | (with_reducible refine below_drewN ?_ _) | (with_reducible refine Below.drew ?_) | (with_reducible (apply ext_step; assumption))))
  have HWb := Lib.hid hWb
  have HS := Lib.hid ((hWb.block _ hlt1).trans HRow.out)
  have hu : W.heap[w1.heap.size]? = some (.cells unitRow 3 (0, 0)) := by rw [hW]; exact heap_at rfl
  have HUR := Lib.hid hu
  have HW := Lib.hid hW
  have hlW : w1.heap.size < W.heap.size := row_lt hu
  have hl2W : w.heap.size < W.heap.size := row_lt HS.out
  clear hWb hu hW
  go_loopw [6] (fun s6 wr => ∃ k : Nat, k ≤ 10 ∧ s6 = .int .i64 k ∧ (sufL.take k).any (isS s) = false ∧ wr = W) (fun s6 _ => 10 - (intOf s6).toNat)
  case atStart => exact ⟨0, by omega, rfl, rfl, HW.out.symm⟩
  case round =>
    obtain ⟨k, hk, rfl, hall, rfl⟩ := hrel
    have Hall := Lib.hid hall
    clear hall
    by_cases hlt : (k : Int) < 10
    · have hk0 : (0 : Int) ≤ k := by omega
      have hkl : k < sufL.length := by show k < 10; omega
      obtain ⟨A, c, hv, -, -, hA⟩ := suf_strs HS.out
      obtain ⟨b, o, rfl, -, hb2, hcell⟩ := hA (by decide)
      simp only [Value.slice.injEq, Option.some.injEq, Addr.mk.injEq] at hv
      obtain ⟨⟨rfl, rfl, -⟩, -, -⟩ := hv
      obtain ⟨d, hd⟩ := exists_at hkl
      obtain ⟨es, -, hcs, hC⟩ := hcell k d hd
      obtain ⟨rfl, ea0⟩ := hC
      have hc0 := hcs 0 (by omega)
      simp at hc0
      have hu0 := unit_cell HUR.out (show k < 10 by omega)
      rcases hq : (d.toList == s.toList) with _ | _
      · have Hn := Lib.hid (takeAny_no (isS s) sufL k d hd Hall.out hq)
        clear hcs hcell hA hd
        go_wp2_with fail
        go_roundw
        case rel => exact ⟨k + 1, by omega, by go_num, Hn.out, by first | rfl | exact True.intro⟩
        case measure => simp [intOf]; omega
      · have HU := Lib.hid (unit_some (idxI_hit sufL s k d hd Hall.out hq))
        clear hcs hcell hA hd
        go_wp2_with fail
        go_ret2
        exact ⟨by rw [HU.out.1, HU.out.2]; rfl, HB1.out.trans (HWb.out.mono HB1.out.size)⟩
    · obtain rfl : k = 10 := by omega
      have HU := Lib.hid (unit_none (idxI_end sufL s Hall.out))
      go_wp2_with fail
      go_ret2
      exact ⟨by rw [HU.out.1, HU.out.2]; rfl, HB1.out.trans (HWb.out.mono HB1.out.size)⟩
end Go.Proofs.YtdogjeoiggnhaaaDoor
