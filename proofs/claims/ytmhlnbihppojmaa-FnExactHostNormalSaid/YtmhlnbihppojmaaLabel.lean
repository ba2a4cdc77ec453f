/- Contracts of the functions on letters, words, labels. No conditions. -/
import Derived.Test.YtmhlnbihppojmaaBase
import Derived.Lib.IndexAny
namespace Go.Proofs.Ytmhlnbihppojmaa
open Go.RowKit

def letterB (c : Int) : Bool := decide (97 ≤ c ∧ c ≤ 122 ∨ 65 ≤ c ∧ c ≤ 90 ∨ 48 ≤ c ∧ c ≤ 57)
def digitB (c : Int) : Bool := decide (48 ≤ c ∧ c ≤ 57)
def lowerB (c : Int) : Bool := decide (97 ≤ c ∧ c ≤ 122)
def alphaB (c : Int) : Bool := decide (97 ≤ c ∧ c ≤ 122 ∨ 65 ≤ c ∧ c ≤ 90)
def inB (x a b : Int) : Bool := decide (a ≤ x ∧ x ≤ b)

theorem c_spec_l14Letter (c : Int) (w : World) : Calls Try.prog 181 #[.int .u8 c] w fun e w' => e = .returned (.bool (letterB c)) ∧ w = w' := by
  go_enter Try.func181, Try.ntmps181
  go_wp2_with fail
  all_goals
    go_ret
    refine ⟨ret_bool ?_, rfl⟩
    rw [Bool.eq_iff_iff]
    simp [letterB]
    try omega
theorem c_impl_isDigit (c : Int) (w : World) : Calls Try.prog 184 #[.int .u8 c] w fun e w' => e = .returned (.bool (digitB c)) ∧ w = w' := by
  go_enter Try.func184, Try.ntmps184
  go_wp2_with fail
  all_goals
    go_ret
    refine ⟨ret_bool ?_, rfl⟩
    rw [Bool.eq_iff_iff]
    simp [digitB]
    try omega
theorem c_impl_isLower (c : Int) (w : World) : Calls Try.prog 183 #[.int .u8 c] w fun e w' => e = .returned (.bool (lowerB c)) ∧ w = w' := by
  go_enter Try.func183, Try.ntmps183
  go_wp2_with fail
  all_goals
    go_ret
    refine ⟨ret_bool ?_, rfl⟩
    rw [Bool.eq_iff_iff]
    simp [lowerB]
    try omega
theorem c_impl_isLetter (c : Int) (w : World) : Calls Try.prog 197 #[.int .u8 c] w fun e w' => e = .returned (.bool (alphaB c)) ∧ w = w' := by
  go_enter Try.func197, Try.ntmps197
  go_wp2_with (first | (go_at_call 183; refine (c_impl_isLower _ _).mono ?_; rintro e w' ⟨rfl, rfl⟩))
  all_goals
    go_ret
    refine ⟨ret_bool ?_, rfl⟩
    rw [Bool.eq_iff_iff]
    simp_all [alphaB, lowerB]
    try omega
theorem c_impl_wordOk1 (c : Int) (w : World) : Calls Try.prog 196 #[.int .u8 c] w fun e w' => e = .returned (.bool (letterB c)) ∧ w = w' := by
  go_enter Try.func196, Try.ntmps196
  go_wp2_with (first | (go_at_call 197; refine (c_impl_isLetter _ _).mono ?_; rintro e w' ⟨rfl, rfl⟩) | (go_at_call 184; refine (c_impl_isDigit _ _).mono ?_; rintro e w' ⟨rfl, rfl⟩))
  all_goals
    go_ret
    refine ⟨ret_bool ?_, rfl⟩
    rw [Bool.eq_iff_iff]
    simp_all [alphaB, digitB, letterB]
    try omega
theorem c_impl_within (x a b : Int) (w : World) : Calls Try.prog 112 #[.int .i64 x, .int .i64 a, .int .i64 b] w fun e w' => e = .returned (.bool (inB x a b)) ∧ w = w' := by
  go_enter Try.func112, Try.ntmps112
  go_wp2_with fail
  all_goals
    go_ret
    refine ⟨ret_bool ?_, rfl⟩
    rw [Bool.eq_iff_iff]
    simp [inB]
    try omega
theorem c_spec_l01In (x a b : Int) (w : World) : Calls Try.prog 115 #[.int .i64 x, .int .i64 a, .int .i64 b] w fun e w' => e = .returned (.bool (inB x a b)) ∧ w = w' := by
  go_enter Try.func115, Try.ntmps115
  go_wp2_with fail
  all_goals
    go_ret
    refine ⟨ret_bool ?_, rfl⟩
    rw [Bool.eq_iff_iff]
    simp [inB]
    try omega

theorem run_IndexByteString (s : ByteArray) (c : Int) (w : World) : (callFunc 215 #[.string s, .int .u8 c]).run Try.prog w = .ok (.value (.int .i64 (Lib.indexByte s.data.toList c.toNat.toUInt8))) w := by
  rw [run_callFunc_extern Try.func215 (by kernel_rfl) (by kernel_rfl) (by kernel_rfl) (e := Extern.BytealgIndexByte.indexByte) (by kernel_rfl), Lib.run_indexByteString]
  rfl
theorem indexByte_lt {o : List UInt8} {c : UInt8} : Lib.indexByte o c < 0 ↔ o.contains c = false := by
  have h := Lib.contains_iff_indexByte o c
  rw [h]; simp
theorem c_slite_IndexByte (s : ByteArray) (c : UInt8) (w : World) : Calls Try.prog 211 #[.string s, .int .u8 c.toNat] w fun e w' => e = .returned (.int .i64 (Lib.indexByte s.data.toList c)) ∧ w = w' := by
  have h := run_IndexByteString s c.toNat
  rw [show ((c.toNat : Int)).toNat.toUInt8 = c from by simp] at h
  go_enter Try.func211, Try.ntmps211
  go_wp2
  go_ret
  exact ⟨rfl, rfl⟩
theorem c_strings_IndexByte (s : ByteArray) (c : UInt8) (w : World) : Calls Try.prog 198 #[.string s, .int .u8 c.toNat] w fun e w' => e = .returned (.int .i64 (Lib.indexByte s.data.toList c)) ∧ w = w' := by
  go_enter Try.func198, Try.ntmps198
  go_wp2_with (go_at_call 211; refine (c_slite_IndexByte _ _ _).mono ?_; rintro e w' ⟨rfl, rfl⟩)
  go_ret
  exact ⟨rfl, rfl⟩
end Go.Proofs.Ytmhlnbihppojmaa
