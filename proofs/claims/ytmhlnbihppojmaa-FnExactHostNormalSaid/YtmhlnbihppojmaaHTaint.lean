/- Contracts of the laws' own functions on Taint: sizes, copies, comparisons. No conditions. Written by wip/tools/genhelp.py. -/
import Derived.Test.YtmhlnbihppojmaaStrs
namespace Go.Proofs.Ytmhlnbihppojmaa
open Go.RowKit

def nTaint (d : Taint) : Nat := d.key.size + d.value.size
theorem c_laws_szTaint (d : Taint) (cs : List Value) (left : Int) (w : World) (h : C_Taint d cs) (h3 : 0 ≤ left) (h4 : left ≤ 1048576) :
    Calls Try.prog 43 #[.agg cs.toArray, .int .i64 left] w fun e w' => e = .returned (.int .i64 (szI left (nTaint d))) ∧ Below w.heap.size w w' := by
  obtain ⟨rfl, a0, a1, a2⟩ := h
  unfold I64 at a2
  by_cases g_key : left - (d.key.size : Nat) < 0
  · have Hf := Lib.hid (show szI left (nTaint d) = -1 by unfold nTaint szI; rw [if_neg (by omega)])
    go_enter Try.func43, Try.ntmps43
    go_wp2_with fail
    go_ret
    exact ⟨ret_int Hf.out.symm, (by repeat (first | (with_reducible exact Below.refl _ _) | (with_reducible refine ext_alloc ?_) | ((with_reducible refine ext_setCell ?_ ?_); focus (simp; (try omega))) | (with_reducible refine below_drewN ?_ _) | (with_reducible refine Below.drew ?_) | (with_reducible (apply ext_step; assumption))))⟩
  by_cases g_value : left - (d.key.size : Nat) - (d.value.size : Nat) < 0
  · have Hf := Lib.hid (show szI left (nTaint d) = -1 by unfold nTaint szI; rw [if_neg (by omega)])
    go_enter Try.func43, Try.ntmps43
    go_wp2_with fail
    go_ret
    exact ⟨ret_int Hf.out.symm, (by repeat (first | (with_reducible exact Below.refl _ _) | (with_reducible refine ext_alloc ?_) | ((with_reducible refine ext_setCell ?_ ?_); focus (simp; (try omega))) | (with_reducible refine below_drewN ?_ _) | (with_reducible refine Below.drew ?_) | (with_reducible (apply ext_step; assumption))))⟩
  have Hf := Lib.hid (show szI left (nTaint d) = left - (d.key.size : Nat) - (d.value.size : Nat) by unfold nTaint szI; rw [if_pos (by omega)]; omega)
  go_enter Try.func43, Try.ntmps43
  go_wp2_with fail
  go_ret
  exact ⟨ret_int Hf.out.symm, (by repeat (first | (with_reducible exact Below.refl _ _) | (with_reducible refine ext_alloc ?_) | ((with_reducible refine ext_setCell ?_ ?_); focus (simp; (try omega))) | (with_reducible refine below_drewN ?_ _) | (with_reducible refine Below.drew ?_) | (with_reducible (apply ext_step; assumption))))⟩
theorem c_laws_toTaint (d : Taint) (cs : List Value) (w : World) (h : C_Taint d cs) :
    Calls Try.prog 45 #[.agg cs.toArray] w fun e w' => e = .returned (.agg cs.toArray) ∧ Below w.heap.size w w' := by
  obtain ⟨rfl, a0, a1, a2⟩ := h
  unfold I64 at a2
  go_enter Try.func45, Try.ntmps45
  go_wp2_with fail
  exact bodyPost_ret (v := .agg #[.string d.key, .string d.value, .int .i64 d.effect]) (by simp [results, Try.results45, go_sem]) rfl ⟨rfl, (by repeat (first | (with_reducible exact Below.refl _ _) | (with_reducible refine ext_alloc ?_) | ((with_reducible refine ext_setCell ?_ ?_); focus (simp; (try omega))) | (with_reducible refine below_drewN ?_ _) | (with_reducible refine Below.drew ?_) | (with_reducible (apply ext_step; assumption))))⟩
theorem c_laws_eqTaint (d : Taint) (cs cs' : List Value) (w : World) (h : C_Taint d cs) (h' : C_Taint d cs') :
    Calls Try.prog 50 #[.agg cs.toArray, .agg cs'.toArray] w fun e w' => e = .returned (.bool true) ∧ Below w.heap.size w w' := by
  obtain ⟨rfl, a0, a1, a2⟩ := h
  unfold I64 at a2
  obtain ⟨rfl, za0, za1, za2⟩ := h'
  unfold I64 at za2
  go_enter Try.func50, Try.ntmps50
  go_wp2_with fail
  go_ret
  exact ⟨rfl, (by repeat (first | (with_reducible exact Below.refl _ _) | (with_reducible refine ext_alloc ?_) | ((with_reducible refine ext_setCell ?_ ?_); focus (simp; (try omega))) | (with_reducible refine below_drewN ?_ _) | (with_reducible refine Below.drew ?_) | (with_reducible (apply ext_step; assumption))))⟩
theorem c_laws_szTaintS (l : List Taint) (v : Value) (left : Int) (w : World) (lo : Nat) (hs : Sl_Taint lo w.heap.size w l v) (h3 : 0 ≤ left) (h4 : left ≤ 1048576) :
    Calls Try.prog 8 #[v, .int .i64 left] w fun e w' => e = .returned (.int .i64 (szI left (nL nTaint l))) ∧ Below w.heap.size w w' := by
  obtain ⟨A, c, rfl, hlc, hc, hA⟩ := hs
  by_cases hlt : left - l.length < 0
  · have Hf := Lib.hid (show szI left (nL nTaint l) = -1 by rw [nL_def]; unfold szI; rw [if_neg (by omega)])
    go_enter Try.func8, Try.ntmps8
    go_wp2_with fail
    go_ret
    exact ⟨ret_int Hf.out.symm, (by repeat (first | (with_reducible exact Below.refl _ _) | (with_reducible refine ext_alloc ?_) | ((with_reducible refine ext_setCell ?_ ?_); focus (simp; (try omega))) | (with_reducible refine below_drewN ?_ _) | (with_reducible refine Below.drew ?_) | (with_reducible (apply ext_step; assumption))))⟩
  · go_enter Try.func8, Try.ntmps8
    go_wp2_with fail
    go_loopw [1, 5] (fun x i wr => ∃ k : Nat, k ≤ l.length ∧ i = .int .i64 k ∧ x = .int .i64 (left - l.length - szL nTaint (l.take k)) ∧ 0 ≤ left - l.length - szL nTaint (l.take k) ∧ Below w.heap.size w wr) (fun _ i _ => l.length - (intOf i).toNat)
    case atStart => exact ⟨0, Nat.zero_le _, rfl, by simp [szL], by simp [szL]; omega, (by repeat (first | (with_reducible exact Below.refl _ _) | (with_reducible refine ext_alloc ?_) | ((with_reducible refine ext_setCell ?_ ?_); focus (simp; (try omega))) | (with_reducible refine below_drewN ?_ _) | (with_reducible refine Below.drew ?_) | (with_reducible (apply ext_step; assumption))))⟩
    case round =>
      obtain ⟨k, hk, rfl, rfl, hge, hbr⟩ := hrel
      by_cases hlt : k < l.length
      · obtain ⟨b, o, rfl, -, hb2, hcell⟩ := hA (by omega)
        obtain ⟨d, hd⟩ := exists_at hlt
        obtain ⟨cs, -, hcs, hC⟩ := hcell k d hd
        have hC' := hC
        obtain ⟨rfl, ea0, ea1, ea2⟩ := hC'
        have hc0 := (hbr.cell (p := ⟨b, o + k * 3 + 0, none⟩) (by simp; omega)).trans (hcs 0 (by omega))
        simp at hc0
        have hc1 := (hbr.cell (p := ⟨b, o + k * 3 + 1, none⟩) (by simp; omega)).trans (hcs 1 (by omega))
        simp at hc1
        have hc2 := (hbr.cell (p := ⟨b, o + k * 3 + 2, none⟩) (by simp; omega)).trans (hcs 2 (by omega))
        simp at hc2
        clear hcs hcell hA
        have Hs := Lib.hid (szL_take_succ nTaint l k d hd)
        have hle := szL_take_le nTaint l (k+1)
        by_cases hneg : left - l.length - szL nTaint (l.take k) - nTaint d < 0
        · have hz : szI (left - l.length - szL nTaint (l.take k)) (nTaint d) = -1 := szI_neg (by omega)
          have Hf := Lib.hid (show szI left (nL nTaint l) = -1 by rw [nL_def]; unfold szI; have := Hs.out; rw [if_neg (by omega)])
          go_wp2_with (go_at_call 43; refine (c_laws_szTaint d _ _ _ hC (by omega) (by omega)).mono ?_; rintro e w1 ⟨rfl, hb⟩; (first | (have hcu2 := Cum.join hcu hb; (try clear hcu); (try clear hc); (try clear hfz); (try clear hsz); (try clear hs0); (try clear hs1); (try clear hs2); (try clear hs3); (try clear hs4); ) | have hcu2 := Cum.mk hb); have hcu := hcu2; clear hcu2; obtain ⟨hc, hfz⟩ := bcell hcu.h; have hsz := hcu.h.size; (try simp at hsz); (try have hs0 := lt_of_succ_le hsz); (try (have hs1 := lt_pred hsz; (try (have hs2 := lt_pred hs1; (try (have hs3 := lt_pred hs2; (try have hs4 := lt_pred hs3))))))))
          go_ret
          exact ⟨ret_int Hf.out.symm, (by repeat (first | (with_reducible exact Below.refl _ _) | (with_reducible refine ext_alloc ?_) | ((with_reducible refine ext_setCell ?_ ?_); focus (simp; (try omega))) | (with_reducible refine below_drewN ?_ _) | (with_reducible refine Below.drew ?_) | (with_reducible (apply ext_step; assumption))))⟩
        · have hz : szI (left - l.length - szL nTaint (l.take k)) (nTaint d) = left - l.length - szL nTaint (l.take k) - nTaint d := szI_pos (by omega)
          go_wp2_with (go_at_call 43; refine (c_laws_szTaint d _ _ _ hC (by omega) (by omega)).mono ?_; rintro e w1 ⟨rfl, hb⟩; (first | (have hcu2 := Cum.join hcu hb; (try clear hcu); (try clear hc); (try clear hfz); (try clear hsz); (try clear hs0); (try clear hs1); (try clear hs2); (try clear hs3); (try clear hs4); ) | have hcu2 := Cum.mk hb); have hcu := hcu2; clear hcu2; obtain ⟨hc, hfz⟩ := bcell hcu.h; have hsz := hcu.h.size; (try simp at hsz); (try have hs0 := lt_of_succ_le hsz); (try (have hs1 := lt_pred hsz; (try (have hs2 := lt_pred hs1; (try (have hs3 := lt_pred hs2; (try have hs4 := lt_pred hs3))))))))
          go_roundw
          case rel => exact ⟨k + 1, by omega, by go_num, by rw [Hs.out]; go_num, by rw [Hs.out]; omega, (by repeat (first | (with_reducible exact Below.refl _ _) | (with_reducible refine ext_alloc ?_) | ((with_reducible refine ext_setCell ?_ ?_); focus (simp; (try omega))) | (with_reducible refine below_drewN ?_ _) | (with_reducible refine Below.drew ?_) | (with_reducible (apply ext_step; assumption))))⟩
          case measure => simp [intOf]; omega
      · obtain rfl : k = l.length := by omega
        rw [List.take_length] at *
        have Hf := Lib.hid (show szI left (nL nTaint l) = left - l.length - szL nTaint l by rw [nL_def]; unfold szI; rw [if_pos (by omega)]; omega)
        clear hA
        go_wp2_with fail
        go_ret
        exact ⟨ret_int Hf.out.symm, (by repeat (first | (with_reducible exact Below.refl _ _) | (with_reducible refine ext_alloc ?_) | ((with_reducible refine ext_setCell ?_ ?_); focus (simp; (try omega))) | (with_reducible refine below_drewN ?_ _) | (with_reducible refine Below.drew ?_) | (with_reducible (apply ext_step; assumption))))⟩
theorem c_laws_toTaintS (l : List Taint) (v : Value) (w : World) (lo : Nat) (hs : Sl_Taint lo w.heap.size w l v) (hn : l.length ≤ 1048576) :
    Calls Try.prog 10 #[v] w fun e w' => ∃ A c, e = .returned (.slice A l.length c) ∧ Sl_Taint w.heap.size w'.heap.size w' l (.slice A l.length c) ∧ Below w.heap.size w w' := by
  obtain ⟨A, c, rfl, hlc, hc, hA⟩ := hs
  have hmk := run_make_slice (P := Try.prog) (z := .agg #[.string ⟨#[]⟩, .string ⟨#[]⟩, .int .i64 0]) (size := 3) (bytes := 40) Try.underlying24 (by kernel_rfl) l.length (by omega) (by omega)
  go_enter Try.func10, Try.ntmps10
  go_wp2_with fail
  go_loopw [4] (fun i wr => ∃ (k : Nat) (cs : Array Value), k ≤ l.length ∧ i = .int .i64 k ∧ Below w.heap.size w wr ∧ wr.heap[w.heap.size]? = some (.cells cs 45 (0, 0)) ∧ Part (C_Taint) 3 l k cs) (fun i _ => l.length - (intOf i).toNat)
  case atStart => exact ⟨0, _, Nat.zero_le _, rfl, (by repeat (first | (with_reducible exact Below.refl _ _) | (with_reducible refine ext_alloc ?_) | ((with_reducible refine ext_setCell ?_ ?_); focus (simp; (try omega))) | (with_reducible refine below_drewN ?_ _) | (with_reducible refine Below.drew ?_) | (with_reducible (apply ext_step; assumption)))), heap_alloc_new _ _, Part.zero (by simp [size_madeCells])⟩
  case round =>
    obtain ⟨k, cs, hk, rfl, hbr, hg, hp⟩ := hrel
    by_cases hlt : k < l.length
    · obtain ⟨b, o, rfl, -, hb2, hcell⟩ := hA (by omega)
      obtain ⟨d, hd⟩ := exists_at hlt
      obtain ⟨es, -, hcs, hC⟩ := hcell k d hd
      have hC' := hC
      obtain ⟨rfl, ea0, ea1, ea2⟩ := hC'
      have hc0 := (hbr.cell (p := ⟨b, o + k * 3 + 0, none⟩) (by simp; omega)).trans (hcs 0 (by omega))
      simp at hc0
      have hc1 := (hbr.cell (p := ⟨b, o + k * 3 + 1, none⟩) (by simp; omega)).trans (hcs 1 (by omega))
      simp at hc1
      have hc2 := (hbr.cell (p := ⟨b, o + k * 3 + 2, none⟩) (by simp; omega)).trans (hcs 2 (by omega))
      simp at hc2
      obtain ⟨x0, hx0⟩ := row_cell hg (o := k * 3 + 0) (by rw [hp.1]; omega)
      have hf0 := frozen_row hg (k * 3 + 0)
      rw [Nat.add_zero] at hx0 hf0
      obtain ⟨x1, hx1⟩ := row_cell hg (o := k * 3 + 1) (by rw [hp.1]; omega)
      have hf1 := frozen_row hg (k * 3 + 1)
      obtain ⟨x2, hx2⟩ := row_cell hg (o := k * 3 + 2) (by rw [hp.1]; omega)
      have hf2 := frozen_row hg (k * 3 + 2)
      have hgl := row_lt hg
      clear hcs hcell hA
      go_wp2_with (go_at_call 45; refine (c_laws_toTaint d _ _ hC).mono ?_; rintro e w1 ⟨rfl, hb⟩; (first | (have hcu2 := Cum.join hcu hb; (try clear hcu); (try clear hc); (try clear hfz); (try clear hsz); (try clear hs0); (try clear hs1); (try clear hs2); (try clear hs3); (try clear hs4); ) | have hcu2 := Cum.mk hb); have hcu := hcu2; clear hcu2; obtain ⟨hc, hfz⟩ := bcell hcu.h; have hsz := hcu.h.size; (try simp at hsz); (try have hs0 := lt_of_succ_le hsz); (try (have hs1 := lt_pred hsz; (try (have hs2 := lt_pred hs1; (try (have hs3 := lt_pred hs2; (try have hs4 := lt_pred hs3))))))))
      go_roundw
      case rel => exact ⟨k + 1, putAt cs (k * 3) [.string d.key, .string d.value, .int .i64 d.effect], by omega, by go_num, (by repeat (first | (with_reducible exact Below.refl _ _) | (with_reducible refine ext_alloc ?_) | ((with_reducible refine ext_setCell ?_ ?_); focus (simp; (try omega))) | (with_reducible refine below_drewN ?_ _) | (with_reducible refine Below.drew ?_) | (with_reducible (apply ext_step; assumption)))), heap_putCells [.string d.key, .string d.value, .int .i64 d.effect] _ _ _ _ _ ((hb.block _ hgl).trans hg), hp.store hd rfl hC⟩
      case measure => simp [intOf]; omega
    · obtain rfl : k = l.length := by omega
      clear hA
      go_wp2_with fail
      go_ret
      exact ⟨_, _, rfl, SlOf.of_part hp hg (Nat.le_refl _) (row_lt hg) (Nat.le_refl _) (by omega), (by repeat (first | (with_reducible exact Below.refl _ _) | (with_reducible refine ext_alloc ?_) | ((with_reducible refine ext_setCell ?_ ?_); focus (simp; (try omega))) | (with_reducible refine below_drewN ?_ _) | (with_reducible refine Below.drew ?_) | (with_reducible (apply ext_step; assumption))))⟩
theorem c_laws_eqTaintS (l : List Taint) (va vb : Value) (w : World) (lo lo' : Nat) (ha : Sl_Taint lo w.heap.size w l va) (hb : Sl_Taint lo' w.heap.size w l vb) :
    Calls Try.prog 12 #[va, vb] w fun e w' => e = .returned (.bool true) ∧ Below w.heap.size w w' := by
  obtain ⟨A, c, rfl, hlc, hc, hA⟩ := ha
  obtain ⟨B, c', rfl, hlc', hc', hB⟩ := hb
  go_enter Try.func12, Try.ntmps12
  go_wp2_with fail
  go_loopw [5] (fun i wr => ∃ k : Nat, k ≤ l.length ∧ i = .int .i64 k ∧ Below w.heap.size w wr) (fun i _ => l.length - (intOf i).toNat)
  case atStart => exact ⟨0, Nat.zero_le _, rfl, (by repeat (first | (with_reducible exact Below.refl _ _) | (with_reducible refine ext_alloc ?_) | ((with_reducible refine ext_setCell ?_ ?_); focus (simp; (try omega))) | (with_reducible refine below_drewN ?_ _) | (with_reducible refine Below.drew ?_) | (with_reducible (apply ext_step; assumption))))⟩
  case round =>
    obtain ⟨k, hk, rfl, hbr⟩ := hrel
    by_cases hlt : k < l.length
    · obtain ⟨b, o, rfl, -, hb2, hcell⟩ := hA (by omega)
      obtain ⟨b', o', rfl, -, hb2', hcell'⟩ := hB (by omega)
      obtain ⟨d, hd⟩ := exists_at hlt
      obtain ⟨es, -, hcs, hC⟩ := hcell k d hd
      obtain ⟨es', -, hcs', hD⟩ := hcell' k d hd
      have hC' := hC
      have hD' := hD
      obtain ⟨rfl, ea0, ea1, ea2⟩ := hC'
      obtain ⟨rfl, fa0, fa1, fa2⟩ := hD'
      have hc0 := (hbr.cell (p := ⟨b, o + k * 3 + 0, none⟩) (by simp; omega)).trans (hcs 0 (by omega))
      simp at hc0
      have hc1 := (hbr.cell (p := ⟨b, o + k * 3 + 1, none⟩) (by simp; omega)).trans (hcs 1 (by omega))
      simp at hc1
      have hc2 := (hbr.cell (p := ⟨b, o + k * 3 + 2, none⟩) (by simp; omega)).trans (hcs 2 (by omega))
      simp at hc2
      have hd0 := (hbr.cell (p := ⟨b', o' + k * 3 + 0, none⟩) (by simp; omega)).trans (hcs' 0 (by omega))
      simp at hd0
      have hd1 := (hbr.cell (p := ⟨b', o' + k * 3 + 1, none⟩) (by simp; omega)).trans (hcs' 1 (by omega))
      simp at hd1
      have hd2 := (hbr.cell (p := ⟨b', o' + k * 3 + 2, none⟩) (by simp; omega)).trans (hcs' 2 (by omega))
      simp at hd2
      have hk0 : (0 : Int) ≤ k := by omega
      have hk1 : (k : Int) < l.length := by omega
      have hbl : b < wr.heap.size := Nat.lt_of_lt_of_le hb2 hbr.size
      have hbl' : b' < wr.heap.size := Nat.lt_of_lt_of_le hb2' hbr.size
      clear hcs hcell hA hcs' hcell' hB hd
      go_wp2_with fail
      go_region_held3 (fun w' => Below (wr).heap.size (wr) w' ∧ (∀ xb xo, xb < (wr).heap.size → w'.cell? ⟨xb, xo, none⟩ = (wr).cell? ⟨xb, xo, none⟩)) (first | exact keep_drew _ | exact keep_ext (by assumption) (by assumption) | exact keep_same (by assumption) | exact keep_alloc (by assumption) _) (first | (go_at_call 50; refine (c_laws_eqTaint d _ _ _ hC hD).mono ?_; rintro e w9 ⟨rfl, hb9⟩))
      (have hb := held_step (by assumption); (first | (have hcu2 := Cum.join hcu hb; (try clear hcu); (try clear hc); (try clear hfz); (try clear hsz); (try clear hs0); (try clear hs1); (try clear hs2); (try clear hs3); (try clear hs4); ) | have hcu2 := Cum.mk hb); have hcu := hcu2; clear hcu2; obtain ⟨hc, hfz⟩ := bcell hcu.h; have hsz := hcu.h.size; (try simp at hsz); (try have hs0 := lt_of_succ_le hsz); (try (have hs1 := lt_pred hsz; (try (have hs2 := lt_pred hs1; (try (have hs3 := lt_pred hs2; (try have hs4 := lt_pred hs3))))))))
      go_wp2_with fail
      go_roundw
      case rel => exact ⟨k + 1, by omega, by go_num, (by repeat (first | (with_reducible exact Below.refl _ _) | (with_reducible refine ext_alloc ?_) | ((with_reducible refine ext_setCell ?_ ?_); focus (simp; (try omega))) | (with_reducible refine below_drewN ?_ _) | (with_reducible refine Below.drew ?_) | (with_reducible (apply ext_step; assumption))))⟩
      case measure => simp [intOf]; omega
    · obtain rfl : k = l.length := by omega
      clear hA hB
      go_wp2_with fail
      go_ret
      exact ⟨rfl, (by repeat (first | (with_reducible exact Below.refl _ _) | (with_reducible refine ext_alloc ?_) | ((with_reducible refine ext_setCell ?_ ?_); focus (simp; (try omega))) | (with_reducible refine below_drewN ?_ _) | (with_reducible refine Below.drew ?_) | (with_reducible (apply ext_step; assumption))))⟩
end Go.Proofs.Ytmhlnbihppojmaa
