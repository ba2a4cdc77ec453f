/- Contracts of the laws' own functions on slices of strings. No conditions. -/
import Derived.Test.YtdogjeoiggnhaaaDoorTypes
namespace Go.Proofs.YtdogjeoiggnhaaaDoor
open Go.RowKit

def szI (left : Int) (n : Nat) : Int := if (n : Int) ≤ left then left - n else -1
theorem szI_neg {left : Int} {n : Nat} (h : ¬ (n : Int) ≤ left) : szI left n = -1 := by unfold szI; rw [if_neg h]
theorem szI_pos {left : Int} {n : Nat} (h : (n : Int) ≤ left) : szI left n = left - n := by unfold szI; rw [if_pos h]
def szL {D : Type} (f : D → Nat) : List D → Nat
  | [] => 0
  | d :: l => f d + szL f l
theorem szL_append {D : Type} (f : D → Nat) (a b : List D) : szL f (a ++ b) = szL f a + szL f b := by
  induction a with
  | nil => simp [szL]
  | cons x xs ih => simp [szL, ih]; omega
theorem szL_take_succ {D : Type} (f : D → Nat) (l : List D) (k : Nat) (d : D) (h : l[k]? = some d) : szL f (l.take (k + 1)) = szL f (l.take k) + f d := by
  have hl : k < l.length := (List.getElem?_eq_some_iff.1 h).1
  rw [List.take_succ_eq_append_getElem hl, szL_append]
  have : l[k] = d := by rw [List.getElem?_eq_getElem hl] at h; exact Option.some.inj h
  simp [szL, this]
theorem szL_take_le {D : Type} (f : D → Nat) (l : List D) (k : Nat) : szL f (l.take k) ≤ szL f l := by
  have := szL_append f (l.take k) (l.drop k); rw [List.take_append_drop] at this; omega
theorem exists_at {D : Type} {l : List D} {k : Nat} (h : k < l.length) : ∃ d, l[k]? = some d := ⟨l[k], List.getElem?_eq_getElem h⟩
def nL {D : Type} (f : D → Nat) (l : List D) : Nat := l.length + szL f l
theorem nL_def {D : Type} (f : D → Nat) (l : List D) : nL f l = l.length + szL f l := rfl

theorem c_laws_szStringS (l : List ByteArray) (v : Value) (left : Int) (w : World) (lo : Nat) (hs : Sl_Str lo w.heap.size w l v) (h3 : 0 ≤ left) (h4 : left ≤ 1048576) :
    Calls Tryd.prog 10 #[v, .int .i64 left] w fun e w' => e = .returned (.int .i64 (szI left (nL ByteArray.size l))) ∧ w = w' := by
  obtain ⟨A, c, rfl, hlc, hc, hA⟩ := hs
  by_cases hlt : left - l.length < 0
  · have Hf := Lib.hid (show szI left (nL ByteArray.size l) = -1 by rw [nL_def]; unfold szI; rw [if_neg (by omega)])
    go_enter Tryd.func10, Tryd.ntmps10
    go_wp2_with fail
    go_ret
    exact ⟨ret_int Hf.out.symm, rfl⟩
  · go_enter Tryd.func10, Tryd.ntmps10
    go_wp2_with fail
    go_loop [1, 5] (fun x i => ∃ k : Nat, k ≤ l.length ∧ i = .int .i64 k ∧ x = .int .i64 (left - l.length - szL ByteArray.size (l.take k)) ∧ 0 ≤ left - l.length - szL ByteArray.size (l.take k)) (fun _ i => l.length - (intOf i).toNat)
    case atStart => exact ⟨0, Nat.zero_le _, rfl, by simp [szL], by simp [szL]; omega⟩
    case round =>
      obtain ⟨k, hk, rfl, rfl, hge⟩ := hrel
      by_cases hlt : k < l.length
      · obtain ⟨b, o, rfl, -, hb2, hcell⟩ := hA (by omega)
        obtain ⟨d, hd⟩ := exists_at hlt
        obtain ⟨cs, -, hcs, rfl, hk1⟩ := hcell k d hd
        have hc0 := hcs 0 (by omega)
        simp at hc0
        clear hcs hcell hA
        have Hs := Lib.hid (szL_take_succ ByteArray.size l k d hd)
        have hle := szL_take_le ByteArray.size l (k+1)
        by_cases hneg : left - l.length - szL ByteArray.size (l.take k) - d.size < 0
        · have Hf := Lib.hid (show szI left (nL ByteArray.size l) = -1 by rw [nL_def]; unfold szI; have := Hs.out; rw [if_neg (by omega)])
          go_wp2_with fail
          go_ret
          exact ⟨ret_int Hf.out.symm, rfl⟩
        · go_wp2_with fail
          go_round
          case rel => exact ⟨k + 1, by omega, by go_num, by rw [Hs.out]; go_num, by rw [Hs.out]; omega⟩
          case measure => simp [intOf]; omega
      · obtain rfl : k = l.length := by omega
        rw [List.take_length] at *
        have Hf := Lib.hid (show szI left (nL ByteArray.size l) = left - l.length - szL ByteArray.size l by rw [nL_def]; unfold szI; rw [if_pos (by omega)]; omega)
        clear hA
        go_wp2_with fail
        go_ret
        exact ⟨ret_int Hf.out.symm, rfl⟩

theorem c_laws_toStringS (l : List ByteArray) (v : Value) (w : World) (lo : Nat) (hs : Sl_Str lo w.heap.size w l v) (hn : l.length ≤ 1048576) :
    Calls Tryd.prog 17 #[v] w fun e w' => ∃ A c, e = .returned (.slice A l.length c) ∧ Sl_Str w.heap.size w'.heap.size w' l (.slice A l.length c) ∧ Below w.heap.size w w' := by
  obtain ⟨A, c, rfl, hlc, hc, hA⟩ := hs
  have hmk := run_make_slice (P := Tryd.prog) (z := .string ⟨#[]⟩) (size := 1) (bytes := 16) Tryd.underlying22 (by kernel_rfl) l.length (by omega) (by omega)
  go_enter Tryd.func17, Tryd.ntmps17
  go_wp2_with fail
  go_loopw [4] (fun i wr => ∃ (k : Nat) (cs : Array Value), k ≤ l.length ∧ i = .int .i64 k ∧ Below w.heap.size w wr ∧ wr.heap[w.heap.size]? = some (.cells cs 9 (0, 0)) ∧ Part C_Str 1 l k cs) (fun i _ => l.length - (intOf i).toNat)
  case atStart => exact ⟨0, _, Nat.zero_le _, rfl, (by repeat (first | (with_reducible exact Below.refl _ _) | (with_reducible refine ext_alloc ?_) | ((with_reducible refine ext_setCell ?_ ?_); focus (simp; (try omega))) | (with_reducible refine below_drewN ?_ _) | (with_reducible refine Below.drew ?_) | (with_reducible (apply ext_step; assumption)))), heap_alloc_new _ _, Part.zero (by simp [size_madeCells])⟩
  case round =>
    obtain ⟨k, cs, hk, rfl, hbr, hg, hp⟩ := hrel
    by_cases hlt : k < l.length
    · obtain ⟨b, o, rfl, -, hb2, hcell⟩ := hA (by omega)
      obtain ⟨d, hd⟩ := exists_at hlt
      obtain ⟨es, -, hcs, rfl, hk1⟩ := hcell k d hd
      have hc0 := (hbr.cell (p := ⟨b, o + k * 1 + 0, none⟩) (by simp; omega)).trans (hcs 0 (by omega))
      simp at hc0
      obtain ⟨x0, hx0⟩ := row_cell hg (o := k * 1 + 0) (by rw [hp.1]; omega)
      have hf0 := frozen_row hg (k * 1 + 0)
      simp at hx0 hf0
      clear hcs hcell hA
      go_wp2_with fail
      go_roundw
      case rel => exact ⟨k + 1, putAt cs k [.string d], by omega, by go_num, (by repeat (first | (with_reducible exact Below.refl _ _) | (with_reducible refine ext_alloc ?_) | ((with_reducible refine ext_setCell ?_ ?_); focus (simp; (try omega))) | (with_reducible refine below_drewN ?_ _) | (with_reducible refine Below.drew ?_) | (with_reducible (apply ext_step; assumption)))), heap_putCells [.string d] _ _ _ _ _ hg, by simpa using hp.store hd rfl ⟨rfl, hk1⟩⟩
      case measure => simp [intOf]; omega
    · obtain rfl : k = l.length := by omega
      clear hA
      go_wp2_with fail
      go_ret
      exact ⟨_, _, rfl, SlOf.of_part hp hg (Nat.le_refl _) (row_lt hg) (Nat.le_refl _) (by omega), (by repeat (first | (with_reducible exact Below.refl _ _) | (with_reducible refine ext_alloc ?_) | ((with_reducible refine ext_setCell ?_ ?_); focus (simp; (try omega))) | (with_reducible refine below_drewN ?_ _) | (with_reducible refine Below.drew ?_) | (with_reducible (apply ext_step; assumption))))⟩

theorem c_laws_eqStringS (l : List ByteArray) (va vb : Value) (w : World) (lo lo' : Nat) (ha : Sl_Str lo w.heap.size w l va) (hb : Sl_Str lo' w.heap.size w l vb) :
    Calls Tryd.prog 23 #[va, vb] w fun e w' => e = .returned (.bool true) ∧ Below w.heap.size w w' := by
  obtain ⟨A, c, rfl, hlc, hc, hA⟩ := ha
  obtain ⟨B, c', rfl, hlc', hc', hB⟩ := hb
  go_enter Tryd.func23, Tryd.ntmps23
  go_wp2_with fail
  go_loopw [5] (fun i wr => ∃ k : Nat, k ≤ l.length ∧ i = .int .i64 k ∧ ∃ n, wr = w.drewN n) (fun i _ => l.length - (intOf i).toNat)
  case atStart => exact ⟨0, Nat.zero_le _, rfl, 0, rfl⟩
  case round =>
    obtain ⟨k, hk, rfl, n, rfl⟩ := hrel
    by_cases hlt : k < l.length
    · obtain ⟨b, o, rfl, -, -, hcell⟩ := hA (by omega)
      obtain ⟨b', o', rfl, -, -, hcell'⟩ := hB (by omega)
      obtain ⟨d, hd⟩ := exists_at hlt
      obtain ⟨es, -, hcs, rfl, -⟩ := hcell k d hd
      obtain ⟨es', -, hcs', rfl, -⟩ := hcell' k d hd
      have hc0 := hcs 0 (by omega)
      have hc1 := hcs' 0 (by omega)
      simp at hc0 hc1
      have hk0 : (0 : Int) ≤ k := by omega
      have hk1 : (k : Int) < l.length := by omega
      clear hcs hcell hA hcs' hcell' hB hd
      go_wp2_with fail
      go_quiet (fail)
      go_wp2_with fail
      go_roundw
      case rel => exact ⟨k + 1, by omega, by go_num, _, rfl⟩
      case measure => simp [intOf]; omega
    · obtain rfl : k = l.length := by omega
      clear hA hB
      go_wp2_with fail
      go_ret
      exact ⟨rfl, (by repeat (first | (with_reducible exact Below.refl _ _) | (with_reducible refine ext_alloc ?_) | ((with_reducible refine ext_setCell ?_ ?_); focus (simp; (try omega))) | (with_reducible refine below_drewN ?_ _) | (with_reducible refine Below.drew ?_) | (with_reducible (apply ext_step; assumption))))⟩
end Go.Proofs.YtdogjeoiggnhaaaDoor
