/- Contracts of the library's comparisons (cmp.Compare, cmp.Or, strings.Compare), and plain laws on the order of strings. No conditions. -/
import Derived.Test.YtmhlnbihppojmaaStrs
namespace Go.Proofs.Ytmhlnbihppojmaa
open Go.RowKit

def cmpI (x y : Int) : Int := if x < y then -1 else if y < x then 1 else 0
def cmpS (a b : ByteArray) : Int := Lib.compareBytes a.data.toList b.data.toList
def lessS (a b : ByteArray) : Bool := Op.bytesLess a.toList b.toList
def orI : List Int → Int
  | [] => 0
  | x :: l => if x == 0 then orI l else x

theorem cmpB_cases : ∀ (a b : List UInt8), (Lib.compareBytes a b = 0 ∧ a = b) ∨ (Lib.compareBytes a b = -1 ∧ a ≠ b ∧ Op.bytesLess a b = true) ∨ (Lib.compareBytes a b = 1 ∧ a ≠ b ∧ Op.bytesLess a b = false)
  | [], [] => .inl ⟨rfl, rfl⟩
  | [], _ :: _ => .inr (.inl ⟨rfl, by simp, rfl⟩)
  | _ :: _, [] => .inr (.inr ⟨rfl, by simp, rfl⟩)
  | x :: a, y :: b => by
    have ih := cmpB_cases a b
    unfold Lib.compareBytes Op.bytesLess
    by_cases h1 : x < y
    · refine .inr (.inl ⟨by simp [h1], ?_, by simp [h1]⟩)
      intro h
      injection h with h2 _
      subst h2
      exact absurd h1 (UInt8.lt_irrefl x)
    · by_cases h2 : y < x
      · refine .inr (.inr ⟨by simp [h1, h2], ?_, ?_⟩)
        · intro h
          injection h with h3 _
          subst h3
          exact absurd h2 (UInt8.lt_irrefl x)
        · have : (x == y) = false := by
            rw [beq_eq_false_iff_ne]
            intro h3
            subst h3
            exact absurd h2 (UInt8.lt_irrefl x)
          simp [h1, this]
      · have h3 : x = y := UInt8.le_antisymm (UInt8.not_lt.1 h2) (UInt8.not_lt.1 h1)
        subst h3
        simpa [h1] using ih

theorem cmpS_cases (a b : ByteArray) : (cmpS a b = 0 ∧ a = b) ∨ (cmpS a b = -1 ∧ a ≠ b ∧ lessS a b = true) ∨ (cmpS a b = 1 ∧ a ≠ b ∧ lessS a b = false) := by
  have h := cmpB_cases a.data.toList b.data.toList
  unfold cmpS lessS
  rw [ByteArray.toList_eq, ByteArray.toList_eq]
  have e : a.data.toList = b.data.toList ↔ a = b := by
    constructor
    · intro h
      obtain ⟨x⟩ := a
      obtain ⟨y⟩ := b
      simp at h
      rw [h]
    · intro h
      rw [h]
  simp only [ne_eq, e] at h
  exact h
theorem beq_toList (a b : ByteArray) : (a.toList == b.toList) = decide (a = b) := by
  rw [Bool.eq_iff_iff, ByteArray.toList_eq, ByteArray.toList_eq]
  obtain ⟨x⟩ := a
  obtain ⟨y⟩ := b
  simp
theorem cmpI_cases (x y : Int) : (cmpI x y = 0 ∧ x = y) ∨ (cmpI x y = -1 ∧ x < y) ∨ (cmpI x y = 1 ∧ y < x) := by
  unfold cmpI
  split
  · exact .inr (.inl ⟨rfl, by assumption⟩)
  · split
    · exact .inr (.inr ⟨rfl, by assumption⟩)
    · exact .inl ⟨rfl, by omega⟩

theorem c_cmp_isNaN (x : Int) (w : World) : Calls Try.prog 149 #[.int .i64 x] w fun e w' => e = .returned (.bool false) ∧ w = w' := by
  go_enter Try.func149, Try.ntmps149
  go_wp2_with fail
  go_ret
  exact ⟨ret_bool (by simp), rfl⟩
theorem c_cmp_Compare (x y : Int) (w : World) : Calls Try.prog 101 #[.int .i64 x, .int .i64 y] w fun e w' => e = .returned (.int .i64 (cmpI x y)) ∧ w = w' := by
  by_cases h1 : x < y
  · go_enter Try.func101, Try.ntmps101
    go_wp2_with (first | (go_at_call 149; refine (c_cmp_isNaN _ _).mono ?_; rintro e w1 ⟨rfl, rfl⟩))
    go_ret
    exact ⟨ret_int (by unfold cmpI; rw [if_pos h1]), rfl⟩
  · by_cases h2 : y < x
    · go_enter Try.func101, Try.ntmps101
      go_wp2_with (first | (go_at_call 149; refine (c_cmp_isNaN _ _).mono ?_; rintro e w1 ⟨rfl, rfl⟩))
      go_ret
      exact ⟨ret_int (by unfold cmpI; rw [if_neg (by omega), if_pos (by omega)]), rfl⟩
    · go_enter Try.func101, Try.ntmps101
      go_wp2_with (first | (go_at_call 149; refine (c_cmp_isNaN _ _).mono ?_; rintro e w1 ⟨rfl, rfl⟩))
      go_ret
      exact ⟨ret_int (by unfold cmpI; rw [if_neg (by omega), if_neg (by omega)]), rfl⟩
theorem run_CompareString (a b : ByteArray) (w : World) : (callFunc 190 #[.string a, .string b]).run Try.prog w = .ok (.value (.int .i64 (cmpS a b))) w := by
  rw [run_callFunc_extern Try.func190 (by kernel_rfl) (by kernel_rfl) (by kernel_rfl) (e := Extern.BytealgCompare.compare) (by kernel_rfl), Lib.run_compareString]
  rfl
theorem c_CompareString (a b : ByteArray) (w : World) : Calls Try.prog 148 #[.string a, .string b] w fun e w' => e = .returned (.int .i64 (cmpS a b)) ∧ w = w' := by
  have h := run_CompareString a b
  go_enter Try.func148, Try.ntmps148
  go_wp2
  go_ret
  exact ⟨rfl, rfl⟩
theorem c_strings_Compare (a b : ByteArray) (w : World) : Calls Try.prog 100 #[.string a, .string b] w fun e w' => e = .returned (.int .i64 (cmpS a b)) ∧ w = w' := by
  go_enter Try.func100, Try.ntmps100
  go_wp2_with (first | (go_at_call 148; refine (c_CompareString _ _ _).mono ?_; rintro e w1 ⟨rfl, rfl⟩))
  go_ret
  exact ⟨rfl, rfl⟩
def C_Int (n : Int) (cs : List Value) : Prop := cs = [.int .i64 n]
theorem part_ints (l : List Int) : Part C_Int 1 l l.length (l.map (Value.int .i64)).toArray := by
  refine ⟨by simp, fun i d _ hd => ⟨[.int .i64 d], rfl, fun j hj => ?_, rfl⟩⟩
  obtain rfl : j = 0 := by omega
  simp [hd]
theorem built_ints (l : List Int) (w : World) (T : TypeId) (h : l.length ≤ 9223372036854775807) : SlOf C_Int 1 0 (w.alloc (.cells (l.map (Value.int .i64)).toArray T)).heap.size (w.alloc (.cells (l.map (Value.int .i64)).toArray T)) l (.slice (some ⟨w.heap.size, 0, none⟩) l.length l.length) :=
  SlOf.of_part (part_ints l) (heap_alloc_new _ _) (Nat.zero_le _) (by simp) (Nat.le_refl _) h
theorem orI_drop (l : List Int) (k : Nat) (x : Int) (h : l[k]? = some x) : orI (l.drop k) = if x == 0 then orI (l.drop (k + 1)) else x := by
  have hl : k < l.length := (List.getElem?_eq_some_iff.1 h).1
  rw [List.drop_eq_getElem_cons hl]
  have : l[k] = x := by rw [List.getElem?_eq_getElem hl] at h; exact Option.some.inj h
  rw [this]
  rfl
theorem c_cmp_Or (l : List Int) (v : Value) (w : World) (lo : Nat) (hs : SlOf C_Int 1 lo w.heap.size w l v) : Calls Try.prog 99 #[v] w fun e w' => e = .returned (.int .i64 (orI l)) ∧ w = w' := by
  obtain ⟨A, c, rfl, hlc, hc, hA⟩ := hs
  go_enter Try.func99, Try.ntmps99
  go_wp2_with fail
  go_loop [8] (fun i => ∃ k : Nat, k ≤ l.length ∧ i = .int .i64 k ∧ orI l = orI (l.drop k)) (fun i => l.length - (intOf i).toNat)
  case atStart => exact ⟨0, Nat.zero_le _, rfl, rfl⟩
  case round =>
    obtain ⟨k, hk, rfl, heq⟩ := hrel
    have Heq := Lib.hid heq
    clear heq
    by_cases hlt : k < l.length
    · obtain ⟨b, o, rfl, -, -, hcell⟩ := hA (by omega)
      obtain ⟨d, hd⟩ := exists_at hlt
      obtain ⟨es, -, hcs, rfl⟩ := hcell k d hd
      have hc0 := hcs 0 (by omega)
      simp at hc0
      have Ho := Lib.hid (orI_drop l k d hd)
      clear hcs hcell hA
      rcases hz : d == 0 with _ | _
      · have hz2 : (d != 0) = true := by simp [bne, hz]
        have Hf := Lib.hid (show orI l = d by rw [Heq.out, Ho.out, hz]; rfl)
        go_wp2_with fail
        go_ret
        exact ⟨ret_int Hf.out.symm, rfl⟩
      · have hz2 : (d != 0) = false := by simp [bne, hz]
        have Hf := Lib.hid (show orI l = orI (l.drop (k + 1)) by rw [Heq.out, Ho.out, hz]; rfl)
        go_wp2_with fail
        go_round
        case rel => exact ⟨k + 1, by omega, by go_num, Hf.out⟩
        case measure => simp [intOf]; omega
    · obtain rfl : k = l.length := by omega
      have Hf := Lib.hid (show orI l = 0 by rw [Heq.out, List.drop_length]; rfl)
      clear hA
      go_wp2_with fail
      go_ret
      exact ⟨ret_int Hf.out.symm, rfl⟩
theorem heap_new {w : World} {o : Obj} {b : Nat} (h : b = w.heap.size) : (w.alloc o).heap[b]? = some o := by subst h; exact heap_alloc_new w o
theorem ints_at (l : List Int) (w : World) (b : Nat) (T : TypeId) (h : l.length ≤ 9223372036854775807) (hg : w.heap[b]? = some (.cells (l.map (Value.int .i64)).toArray T (0, 0))) : SlOf C_Int 1 0 w.heap.size w l (.slice (some ⟨b, 0, none⟩) l.length l.length) :=
  SlOf.of_part (part_ints l) hg (Nat.zero_le _) (row_lt hg) (Nat.le_refl _) h
theorem c_cmp_Or3 (x y z : Int) (w : World) (b : Nat) (T : TypeId) (hg : w.heap[b]? = some (.cells #[.int .i64 x, .int .i64 y, .int .i64 z] T (0, 0))) : Calls Try.prog 99 #[.slice (some ⟨b, 0, none⟩) 3 3] w fun e w' => e = .returned (.int .i64 (orI [x, y, z])) ∧ w = w' :=
  c_cmp_Or [x, y, z] _ _ 0 (ints_at [x, y, z] w b T (by simp) hg)
theorem c_cmp_Or4 (x y z u : Int) (w : World) (b : Nat) (T : TypeId) (hg : w.heap[b]? = some (.cells #[.int .i64 x, .int .i64 y, .int .i64 z, .int .i64 u] T (0, 0))) : Calls Try.prog 99 #[.slice (some ⟨b, 0, none⟩) 4 4] w fun e w' => e = .returned (.int .i64 (orI [x, y, z, u])) ∧ w = w' :=
  c_cmp_Or [x, y, z, u] _ _ 0 (ints_at [x, y, z, u] w b T (by simp) hg)
end Go.Proofs.Ytmhlnbihppojmaa
