/- Written by wip/tools/pack.py: the texts that FnExactPodNormal needs, without what it does not need. No conditions. -/
import Derived.Test.YtmhlnbihppojmaaGreatKFnExactPodNormal1
import Derived.Deep.AppendLies
import Derived.OwnWalk
namespace Go.Proofs.YtmhlnbihppojmaaGreat
open Go.RowKit
def nNeed (d : Need) : Nat := d.key.size + nL ByteArray.size d.values
theorem C_Need.open {lo hi : Nat} {w : World} {d : Need} {cs : List Value} (h : C_Need lo hi w d cs) : ∃ A2 c2, cs = [.string d.key, .int .i64 d.op, .slice A2 d.values.length c2] := by
  obtain ⟨v2, rfl, a0, a1, a2⟩ := h
  obtain ⟨A2, c2, rfl⟩ := a2.form
  exact ⟨A2, c2, rfl⟩
theorem c_laws_szNeed (d : Need) (cs : List Value) (left : Int) (w : World) (lo : Nat) (h : C_Need lo w.heap.size w d cs) (h3 : 0 ≤ left) (h4 : left ≤ 1048576) :
    Calls Tryz.prog 115 #[.agg cs.toArray, .int .i64 left] w fun e w' => e = .returned (.int .i64 (szI left (nNeed d))) ∧ Below w.heap.size w w' := by
  obtain ⟨v2, rfl, a0, a1, a2⟩ := h
  obtain ⟨A2, c2, rfl⟩ := a2.form
  unfold I64 at a1
  by_cases g_key : left - (d.key.size : Nat) < 0
  · have Hf := Lib.hid (show szI left (nNeed d) = -1 by unfold nNeed szI; rw [if_neg (by omega)])
    go_enter Tryz.func115, Tryz.ntmps115
    go_wp2_with (first | (go_at_call 186; refine (c_laws_szStringS _ _ _ _ _ (Sl_Str.now (by assumption) bel) (by omega) (by omega)).mono ?_; rintro e w1 ⟨rfl, rfl⟩))
    go_ret
    exact ⟨ret_int Hf.out.symm, bel⟩
  by_cases g_values : left - (d.key.size : Nat) - (nL ByteArray.size d.values : Nat) < 0
  · have Hf := Lib.hid (show szI left (nNeed d) = -1 by unfold nNeed szI; rw [if_neg (by omega)])
    have z_values : szI (left - (d.key.size : Nat)) (nL ByteArray.size d.values) = -1 := szI_neg (by omega)
    go_enter Tryz.func115, Tryz.ntmps115
    go_wp2_with (first | (go_at_call 186; refine (c_laws_szStringS _ _ _ _ _ (Sl_Str.now (by assumption) bel) (by omega) (by omega)).mono ?_; rintro e w1 ⟨rfl, rfl⟩))
    go_ret
    exact ⟨ret_int Hf.out.symm, bel⟩
  have z_values : szI (left - (d.key.size : Nat)) (nL ByteArray.size d.values) = left - (d.key.size : Nat) - (nL ByteArray.size d.values : Nat) := szI_pos (by omega)
  have Hf := Lib.hid (show szI left (nNeed d) = left - (d.key.size : Nat) - (nL ByteArray.size d.values : Nat) by unfold nNeed szI; rw [if_pos (by omega)]; omega)
  go_enter Tryz.func115, Tryz.ntmps115
  go_wp2_with (first | (go_at_call 186; refine (c_laws_szStringS _ _ _ _ _ (Sl_Str.now (by assumption) bel) (by omega) (by omega)).mono ?_; rintro e w1 ⟨rfl, rfl⟩))
  go_ret
  exact ⟨ret_int Hf.out.symm, bel⟩
set_option maxHeartbeats 1000000 in
theorem c_laws_toNeed (d : Need) (cs : List Value) (w : World) (lo : Nat) (h : C_Need lo w.heap.size w d cs) (hn : nNeed d ≤ 1048576) :
    Calls Tryz.prog 119 #[.agg cs.toArray] w fun e w' => ∃ cs', e = .returned (.agg cs'.toArray) ∧ C_Need w.heap.size w'.heap.size w' d cs' ∧ Below w.heap.size w w' := by
  obtain ⟨v2, rfl, a0, a1, a2⟩ := h
  obtain ⟨A2, c2, rfl⟩ := a2.form
  unfold I64 at a1
  unfold nNeed at hn
  have m2 : d.values.length ≤ 1048576 := by have := nL_def ByteArray.size d.values; omega
  go_enter Tryz.func119, Tryz.ntmps119
  go_wp2_with fail
  refine (c_laws_toStringS _ _ _ _ (Sl_Str.now (by assumption) bel) (by omega)).mono ?_
  rintro e w2 ⟨B2, b2, rfl, r2, hb⟩
  (first | (have hcu2 := Cum.join hcu hb; (try clear hcu); (try clear hc); (try clear hfz); (try clear hsz); (try clear hs0); (try clear hs1); (try clear hs2); (try clear hs3); (try clear hs4); ) | have hcu2 := Cum.mk hb); have hcu := hcu2; clear hcu2; obtain ⟨hc, hfz⟩ := bcell hcu.h; have hsz := hcu.h.size; (try simp at hsz); (try have hs0 := lt_of_succ_le hsz); (try (have hs1 := lt_pred hsz; (try (have hs2 := lt_pred hs1; (try (have hs3 := lt_pred hs2; (try have hs4 := lt_pred hs3)))))))
  have st2 := hb.size
  (try simp at st2)
  go_wp2_with fail
  exact bodyPost_ret (v := .agg #[.string d.key, .int .i64 d.op, .slice B2 d.values.length b2]) (by simp only [results, Tryz.results119]; go_simp) rfl ⟨[.string d.key, .int .i64 d.op, .slice B2 d.values.length b2], rfl, ⟨_, rfl, a0, a1, SlOf.keep r2 (by repeat (first | (with_reducible exact Same.refl _ _ _) | ((with_reducible refine same_setCell ?_ ?_); focus (simp; (try omega))) | ((with_reducible refine same_alloc ?_ ?_); focus (simp; (try omega))) | (with_reducible refine same_drewN ?_ _) | ((with_reducible (apply same_step; assumption)); focus (simp; (try omega))))) (by simp; try omega) (by simp; try omega) (fun _ _ _ h => h)⟩, bel⟩
theorem c_laws_eqNeed (d : Need) (cs cs' : List Value) (w : World) (lo lo' : Nat) (h : C_Need lo w.heap.size w d cs) (h' : C_Need lo' w.heap.size w d cs') :
    Calls Tryz.prog 132 #[.agg cs.toArray, .agg cs'.toArray] w fun e w' => e = .returned (.bool true) ∧ Below w.heap.size w w' := by
  obtain ⟨v2, rfl, a0, a1, a2⟩ := h
  obtain ⟨A2, c2, rfl⟩ := a2.form
  unfold I64 at a1
  obtain ⟨zv2, rfl, za0, za1, za2⟩ := h'
  obtain ⟨zA2, zc2, rfl⟩ := za2.form
  unfold I64 at za1
  go_enter Tryz.func132, Tryz.ntmps132
  go_wp2_with (first | (go_at_call 194; refine (c_laws_eqStringS _ _ _ _ _ _ (Sl_Str.now (by assumption) bel) (Sl_Str.now (by assumption) bel)).mono ?_; rintro e w1 ⟨rfl, hb⟩; (first | (have hcu2 := Cum.join hcu hb; (try clear hcu); (try clear hc); (try clear hfz); (try clear hsz); (try clear hs0); (try clear hs1); (try clear hs2); (try clear hs3); (try clear hs4); ) | have hcu2 := Cum.mk hb); have hcu := hcu2; clear hcu2; obtain ⟨hc, hfz⟩ := bcell hcu.h; have hsz := hcu.h.size; (try simp at hsz); (try have hs0 := lt_of_succ_le hsz); (try (have hs1 := lt_pred hsz; (try (have hs2 := lt_pred hs1; (try (have hs3 := lt_pred hs2; (try have hs4 := lt_pred hs3)))))))))
  go_ret
  exact ⟨rfl, bel⟩
theorem c_laws_szNeedS (l : List Need) (v : Value) (left : Int) (w : World) (lo : Nat) (hs : Sl_Need lo w.heap.size w l v) (h3 : 0 ≤ left) (h4 : left ≤ 1048576) :
    Calls Tryz.prog 56 #[v, .int .i64 left] w fun e w' => e = .returned (.int .i64 (szI left (nL nNeed l))) ∧ Below w.heap.size w w' := by
  obtain ⟨A, c, rfl, hlc, hc, hA⟩ := hs
  by_cases hlt : left - l.length < 0
  · have Hf := Lib.hid (show szI left (nL nNeed l) = -1 by rw [nL_def]; unfold szI; rw [if_neg (by omega)])
    go_enter Tryz.func56, Tryz.ntmps56
    go_wp2_with fail
    go_ret
    exact ⟨ret_int Hf.out.symm, bel⟩
  · go_enter Tryz.func56, Tryz.ntmps56
    go_wp2_with fail
    go_loopw [1, 5] (fun x i wr => ∃ k : Nat, k ≤ l.length ∧ i = .int .i64 k ∧ x = .int .i64 (left - l.length - szL nNeed (l.take k)) ∧ 0 ≤ left - l.length - szL nNeed (l.take k) ∧ Below w.heap.size w wr) (fun _ i _ => l.length - (intOf i).toNat)
    case atStart => exact ⟨0, Nat.zero_le _, rfl, by simp [szL], by simp [szL]; omega, bel⟩
    case round =>
      obtain ⟨k, hk, rfl, rfl, hge, hbr⟩ := hrel
      by_cases hlt : k < l.length
      · obtain ⟨b, o, rfl, -, hb2, hcell⟩ := hA (by omega)
        obtain ⟨d, hd⟩ := exists_at hlt
        obtain ⟨cs, -, hcs, hC⟩ := hcell k d hd
        have hC' := hC
        obtain ⟨ev2, rfl, ea0, ea1, ea2⟩ := hC'
        obtain ⟨eA2, ec2, rfl⟩ := ea2.form
        have hc0 := (hbr.cell (p := ⟨b, o + k * 3 + 0, none⟩) (by simp; omega)).trans (hcs 0 (by omega))
        simp at hc0
        have hc1 := (hbr.cell (p := ⟨b, o + k * 3 + 1, none⟩) (by simp; omega)).trans (hcs 1 (by omega))
        simp at hc1
        have hc2 := (hbr.cell (p := ⟨b, o + k * 3 + 2, none⟩) (by simp; omega)).trans (hcs 2 (by omega))
        simp at hc2
        clear hcs hcell hA
        have Hs := Lib.hid (szL_take_succ nNeed l k d hd)
        have hle := szL_take_le nNeed l (k+1)
        by_cases hneg : left - l.length - szL nNeed (l.take k) - nNeed d < 0
        · have hz : szI (left - l.length - szL nNeed (l.take k)) (nNeed d) = -1 := szI_neg (by omega)
          have Hf := Lib.hid (show szI left (nL nNeed l) = -1 by rw [nL_def]; unfold szI; have := Hs.out; rw [if_neg (by omega)])
          go_wp2_with (go_at_call 115; refine (c_laws_szNeed d _ _ _ _ (hC.now bel) (by omega) (by omega)).mono ?_; rintro e w1 ⟨rfl, hb⟩; (first | (have hcu2 := Cum.join hcu hb; (try clear hcu); (try clear hc); (try clear hfz); (try clear hsz); (try clear hs0); (try clear hs1); (try clear hs2); (try clear hs3); (try clear hs4); ) | have hcu2 := Cum.mk hb); have hcu := hcu2; clear hcu2; obtain ⟨hc, hfz⟩ := bcell hcu.h; have hsz := hcu.h.size; (try simp at hsz); (try have hs0 := lt_of_succ_le hsz); (try (have hs1 := lt_pred hsz; (try (have hs2 := lt_pred hs1; (try (have hs3 := lt_pred hs2; (try have hs4 := lt_pred hs3))))))))
          go_ret
          exact ⟨ret_int Hf.out.symm, bel⟩
        · have hz : szI (left - l.length - szL nNeed (l.take k)) (nNeed d) = left - l.length - szL nNeed (l.take k) - nNeed d := szI_pos (by omega)
          go_wp2_with (go_at_call 115; refine (c_laws_szNeed d _ _ _ _ (hC.now bel) (by omega) (by omega)).mono ?_; rintro e w1 ⟨rfl, hb⟩; (first | (have hcu2 := Cum.join hcu hb; (try clear hcu); (try clear hc); (try clear hfz); (try clear hsz); (try clear hs0); (try clear hs1); (try clear hs2); (try clear hs3); (try clear hs4); ) | have hcu2 := Cum.mk hb); have hcu := hcu2; clear hcu2; obtain ⟨hc, hfz⟩ := bcell hcu.h; have hsz := hcu.h.size; (try simp at hsz); (try have hs0 := lt_of_succ_le hsz); (try (have hs1 := lt_pred hsz; (try (have hs2 := lt_pred hs1; (try (have hs3 := lt_pred hs2; (try have hs4 := lt_pred hs3))))))))
          go_roundw
          case rel => exact ⟨k + 1, by omega, by go_num, by rw [Hs.out]; go_num, by rw [Hs.out]; omega, bel⟩
          case measure => simp [intOf]; omega
      · obtain rfl : k = l.length := by omega
        rw [List.take_length] at *
        have Hf := Lib.hid (show szI left (nL nNeed l) = left - l.length - szL nNeed l by rw [nL_def]; unfold szI; rw [if_pos (by omega)]; omega)
        clear hA
        go_wp2_with fail
        go_ret
        exact ⟨ret_int Hf.out.symm, bel⟩
theorem c_laws_toNeedS (l : List Need) (v : Value) (w : World) (lo : Nat) (hs : Sl_Need lo w.heap.size w l v) (hn : nL nNeed l ≤ 1048576) :
    Calls Tryz.prog 62 #[v] w fun e w' => ∃ A c, e = .returned (.slice A l.length c) ∧ Sl_Need w.heap.size w'.heap.size w' l (.slice A l.length c) ∧ Below w.heap.size w w' := by
  obtain ⟨A, c, rfl, hlc, hc, hA⟩ := hs
  have hlen : l.length ≤ 1048576 := by have := nL_def nNeed l; omega
  have hmk := run_make_slice (P := Tryz.prog) (z := .agg #[.string ⟨#[]⟩, .int .i64 0, .slice none 0 0]) (size := 3) (bytes := 48) Tryz.underlying24 (by kernel_rfl) l.length (by omega) (by omega)
  go_enter Tryz.func62, Tryz.ntmps62
  go_wp2_with fail
  go_loopw [4] (fun i wr => ∃ (k : Nat) (cs : Array Value), k ≤ l.length ∧ i = .int .i64 k ∧ Below w.heap.size w wr ∧ wr.heap[w.heap.size]? = some (.cells cs 31 (0, 0)) ∧ Part (C_Need (w.heap.size + 1) wr.heap.size wr) 3 l k cs) (fun i _ => l.length - (intOf i).toNat)
  case atStart => exact ⟨0, _, Nat.zero_le _, rfl, bel, heap_alloc_new _ _, Part.zero (by simp [size_madeCells])⟩
  case round =>
    obtain ⟨k, cs, hk, rfl, hbr, hg, hp⟩ := hrel
    by_cases hlt : k < l.length
    · obtain ⟨b, o, rfl, -, hb2, hcell⟩ := hA (by omega)
      obtain ⟨d, hd⟩ := exists_at hlt
      obtain ⟨es, -, hcs, hC⟩ := hcell k d hd
      have hC' := hC
      obtain ⟨ev2, rfl, ea0, ea1, ea2⟩ := hC'
      obtain ⟨eA2, ec2, rfl⟩ := ea2.form
      have hc0 := (hbr.cell (p := ⟨b, o + k * 3 + 0, none⟩) (by simp; omega)).trans (hcs 0 (by omega))
      simp at hc0
      have hc1 := (hbr.cell (p := ⟨b, o + k * 3 + 1, none⟩) (by simp; omega)).trans (hcs 1 (by omega))
      simp at hc1
      have hc2 := (hbr.cell (p := ⟨b, o + k * 3 + 2, none⟩) (by simp; omega)).trans (hcs 2 (by omega))
      simp at hc2
      obtain ⟨x0, hx0⟩ := row_cell hg (o := k * 3 + 0) (by rw [hp.1]; omega)
      have hf0 := frozen_row hg (k * 3 + 0)
      rw [Nat.add_zero] at hx0 hf0
      obtain ⟨x1, hx1⟩ := row_cell hg (o := k * 3 + 1) (by rw [hp.1]; omega)
      have hf1 := frozen_row hg (k * 3 + 1)
      obtain ⟨x2, hx2⟩ := row_cell hg (o := k * 3 + 2) (by rw [hp.1]; omega)
      have hf2 := frozen_row hg (k * 3 + 2)
      have hgl := row_lt hg
      clear hcs hcell hA
      have hnd : nNeed d ≤ 1048576 := by have := nL_def nNeed l; have := szL_take_succ nNeed l k d hd; have := szL_take_le nNeed l (k+1); omega
      go_wp2_with fail
      refine (c_laws_toNeed d _ _ _ (hC.now bel) hnd).mono ?_
      rintro e w1 ⟨cs1, rfl, hr1, hb⟩
      obtain ⟨fv2, rfl, fa0, fa1, fa2⟩ := hr1
      obtain ⟨fA2, fc2, rfl⟩ := fa2.form
      (first | (have hcu2 := Cum.join hcu hb; (try clear hcu); (try clear hc); (try clear hfz); (try clear hsz); (try clear hs0); (try clear hs1); (try clear hs2); (try clear hs3); (try clear hs4); ) | have hcu2 := Cum.mk hb); have hcu := hcu2; clear hcu2; obtain ⟨hc, hfz⟩ := bcell hcu.h; have hsz := hcu.h.size; (try simp at hsz); (try have hs0 := lt_of_succ_le hsz); (try (have hs1 := lt_pred hsz; (try (have hs2 := lt_pred hs1; (try (have hs3 := lt_pred hs2; (try have hs4 := lt_pred hs3)))))))
      go_wp2_with fail
      go_roundw
      case rel =>
        refine ⟨k + 1, putAt cs (k * 3) [.string d.key, .int .i64 d.op, .slice fA2 d.values.length fc2], by omega, by go_num, bel, heap_putCells [.string d.key, .int .i64 d.op, .slice fA2 d.values.length fc2] _ _ _ _ _ ((hb.block _ hgl).trans hg), ?_⟩
        refine Part.store (hp.mono (fun _ _ h => h.keep ((same_below hb).trans (same_putCells [.string d.key, .int .i64 d.op, .slice fA2 d.values.length fc2] _ _ _ _ _ (.inl (by omega)))) (Nat.le_refl _) (Nat.le_trans hb.size (Nat.le_of_eq (size_putCells [.string d.key, .int .i64 d.op, .slice fA2 d.values.length fc2] _ _ _).symm)))) hd rfl ?_
        have hK : C_Need wr.heap.size w1.heap.size w1 d [.string d.key, .int .i64 d.op, .slice fA2 d.values.length fc2] := ⟨_, rfl, fa0, fa1, fa2⟩
        exact hK.keep (same_putCells [.string d.key, .int .i64 d.op, .slice fA2 d.values.length fc2] _ _ _ _ _ (.inl (by omega))) (by omega) (Nat.le_of_eq (size_putCells [.string d.key, .int .i64 d.op, .slice fA2 d.values.length fc2] _ _ _).symm)
      case measure => simp [intOf]; omega
    · obtain rfl : k = l.length := by omega
      clear hA
      go_wp2_with fail
      go_ret
      exact ⟨_, _, rfl, SlOf.of_part (hp.mono (fun _ _ h => h.keep (Same.refl _ _ _) (by omega) (Nat.le_refl _))) hg (Nat.le_refl _) (row_lt hg) (Nat.le_refl _) (by omega), bel⟩
theorem c_laws_eqNeedS (l : List Need) (va vb : Value) (w : World) (lo lo' : Nat) (ha : Sl_Need lo w.heap.size w l va) (hb : Sl_Need lo' w.heap.size w l vb) :
    Calls Tryz.prog 69 #[va, vb] w fun e w' => e = .returned (.bool true) ∧ Below w.heap.size w w' := by
  obtain ⟨A, c, rfl, hlc, hc, hA⟩ := ha
  obtain ⟨B, c', rfl, hlc', hc', hB⟩ := hb
  go_enter Tryz.func69, Tryz.ntmps69
  go_wp2_with fail
  go_loopw [5] (fun i wr => ∃ k : Nat, k ≤ l.length ∧ i = .int .i64 k ∧ Below w.heap.size w wr) (fun i _ => l.length - (intOf i).toNat)
  case atStart => exact ⟨0, Nat.zero_le _, rfl, bel⟩
  case round =>
    obtain ⟨k, hk, rfl, hbr⟩ := hrel
    by_cases hlt : k < l.length
    · obtain ⟨b, o, rfl, -, hb2, hcell⟩ := hA (by omega)
      obtain ⟨b', o', rfl, -, hb2', hcell'⟩ := hB (by omega)
      obtain ⟨d, hd⟩ := exists_at hlt
      obtain ⟨es, -, hcs, hC⟩ := hcell k d hd
      obtain ⟨es', -, hcs', hD⟩ := hcell' k d hd
      have hC' := hC
      have hD' := hD
      obtain ⟨ev2, rfl, ea0, ea1, ea2⟩ := hC'
      obtain ⟨eA2, ec2, rfl⟩ := ea2.form
      obtain ⟨fv2, rfl, fa0, fa1, fa2⟩ := hD'
      obtain ⟨fA2, fc2, rfl⟩ := fa2.form
      have hc0 := (hbr.cell (p := ⟨b, o + k * 3 + 0, none⟩) (by simp; omega)).trans (hcs 0 (by omega))
      simp at hc0
      have hc1 := (hbr.cell (p := ⟨b, o + k * 3 + 1, none⟩) (by simp; omega)).trans (hcs 1 (by omega))
      simp at hc1
      have hc2 := (hbr.cell (p := ⟨b, o + k * 3 + 2, none⟩) (by simp; omega)).trans (hcs 2 (by omega))
      simp at hc2
      have hd0 := (hbr.cell (p := ⟨b', o' + k * 3 + 0, none⟩) (by simp; omega)).trans (hcs' 0 (by omega))
      simp at hd0
      have hd1 := (hbr.cell (p := ⟨b', o' + k * 3 + 1, none⟩) (by simp; omega)).trans (hcs' 1 (by omega))
      simp at hd1
      have hd2 := (hbr.cell (p := ⟨b', o' + k * 3 + 2, none⟩) (by simp; omega)).trans (hcs' 2 (by omega))
      simp at hd2
      have hk0 : (0 : Int) ≤ k := by omega
      have hk1 : (k : Int) < l.length := by omega
      have hbl : b < wr.heap.size := Nat.lt_of_lt_of_le hb2 hbr.size
      have hbl' : b' < wr.heap.size := Nat.lt_of_lt_of_le hb2' hbr.size
      clear hcs hcell hA hcs' hcell' hB hd
      go_wp2_with fail
      go_region_held3 (fun w' => Below (wr).heap.size (wr) w' ∧ (∀ xb xo, xb < (wr).heap.size → w'.cell? ⟨xb, xo, none⟩ = (wr).cell? ⟨xb, xo, none⟩)) (first | exact keep_drew _ | exact keep_ext (by assumption) (by assumption) | exact keep_same (by assumption) | exact keep_alloc (by assumption) _) (first | (go_at_call 132; refine (c_laws_eqNeed d _ _ _ _ _ (hC.now (ext_trans hbr (by first | (with_reducible exact Below.refl _ _) | exact (keep_same (by assumption)).1))) (hD.now (ext_trans hbr (by first | (with_reducible exact Below.refl _ _) | exact (keep_same (by assumption)).1)))).mono ?_; rintro e w9 ⟨rfl, hb9⟩))
      (have hb := held_step (by assumption); (first | (have hcu2 := Cum.join hcu hb; (try clear hcu); (try clear hc); (try clear hfz); (try clear hsz); (try clear hs0); (try clear hs1); (try clear hs2); (try clear hs3); (try clear hs4); ) | have hcu2 := Cum.mk hb); have hcu := hcu2; clear hcu2; obtain ⟨hc, hfz⟩ := bcell hcu.h; have hsz := hcu.h.size; (try simp at hsz); (try have hs0 := lt_of_succ_le hsz); (try (have hs1 := lt_pred hsz; (try (have hs2 := lt_pred hs1; (try (have hs3 := lt_pred hs2; (try have hs4 := lt_pred hs3))))))))
      go_wp2_with fail
      go_roundw
      case rel => exact ⟨k + 1, by omega, by go_num, bel⟩
      case measure => simp [intOf]; omega
    · obtain rfl : k = l.length := by omega
      clear hA hB
      go_wp2_with fail
      go_ret
      exact ⟨rfl, bel⟩
end Go.Proofs.YtmhlnbihppojmaaGreat
namespace Go.Proofs.YtmhlnbihppojmaaGreat
open Go.RowKit
def nTolerance (d : Tolerance) : Nat := d.key.size + d.value.size
theorem c_laws_szTolerance (d : Tolerance) (cs : List Value) (left : Int) (w : World) (h : C_Tolerance d cs) (h3 : 0 ≤ left) (h4 : left ≤ 1048576) :
    Calls Tryz.prog 116 #[.agg cs.toArray, .int .i64 left] w fun e w' => e = .returned (.int .i64 (szI left (nTolerance d))) ∧ Below w.heap.size w w' := by
  obtain ⟨rfl, a0, a2, a3⟩ := h
  unfold I64 at a3
  by_cases g_key : left - (d.key.size : Nat) < 0
  · have Hf := Lib.hid (show szI left (nTolerance d) = -1 by unfold nTolerance szI; rw [if_neg (by omega)])
    go_enter Tryz.func116, Tryz.ntmps116
    go_wp2_with fail
    go_ret
    exact ⟨ret_int Hf.out.symm, bel⟩
  by_cases g_value : left - (d.key.size : Nat) - (d.value.size : Nat) < 0
  · have Hf := Lib.hid (show szI left (nTolerance d) = -1 by unfold nTolerance szI; rw [if_neg (by omega)])
    go_enter Tryz.func116, Tryz.ntmps116
    go_wp2_with fail
    go_ret
    exact ⟨ret_int Hf.out.symm, bel⟩
  have Hf := Lib.hid (show szI left (nTolerance d) = left - (d.key.size : Nat) - (d.value.size : Nat) by unfold nTolerance szI; rw [if_pos (by omega)]; omega)
  go_enter Tryz.func116, Tryz.ntmps116
  go_wp2_with fail
  go_ret
  exact ⟨ret_int Hf.out.symm, bel⟩
theorem c_laws_toTolerance (d : Tolerance) (cs : List Value) (w : World) (h : C_Tolerance d cs) :
    Calls Tryz.prog 120 #[.agg cs.toArray] w fun e w' => e = .returned (.agg cs.toArray) ∧ Below w.heap.size w w' := by
  obtain ⟨rfl, a0, a2, a3⟩ := h
  unfold I64 at a3
  go_enter Tryz.func120, Tryz.ntmps120
  go_wp2_with fail
  exact bodyPost_ret (v := .agg #[.string d.key, .bool d.equal, .string d.value, .int .i64 d.effect]) (by simp [results, Tryz.results120, go_sem]) rfl ⟨rfl, bel⟩
theorem c_laws_eqTolerance (d : Tolerance) (cs cs' : List Value) (w : World) (h : C_Tolerance d cs) (h' : C_Tolerance d cs') :
    Calls Tryz.prog 133 #[.agg cs.toArray, .agg cs'.toArray] w fun e w' => e = .returned (.bool true) ∧ Below w.heap.size w w' := by
  obtain ⟨rfl, a0, a2, a3⟩ := h
  unfold I64 at a3
  obtain ⟨rfl, za0, za2, za3⟩ := h'
  unfold I64 at za3
  go_enter Tryz.func133, Tryz.ntmps133
  go_wp2_with fail
  go_ret
  exact ⟨rfl, bel⟩
theorem c_laws_szToleranceS (l : List Tolerance) (v : Value) (left : Int) (w : World) (lo : Nat) (hs : Sl_Tolerance lo w.heap.size w l v) (h3 : 0 ≤ left) (h4 : left ≤ 1048576) :
    Calls Tryz.prog 57 #[v, .int .i64 left] w fun e w' => e = .returned (.int .i64 (szI left (nL nTolerance l))) ∧ Below w.heap.size w w' := by
  obtain ⟨A, c, rfl, hlc, hc, hA⟩ := hs
  by_cases hlt : left - l.length < 0
  · have Hf := Lib.hid (show szI left (nL nTolerance l) = -1 by rw [nL_def]; unfold szI; rw [if_neg (by omega)])
    go_enter Tryz.func57, Tryz.ntmps57
    go_wp2_with fail
    go_ret
    exact ⟨ret_int Hf.out.symm, bel⟩
  · go_enter Tryz.func57, Tryz.ntmps57
    go_wp2_with fail
    go_loopw [1, 5] (fun x i wr => ∃ k : Nat, k ≤ l.length ∧ i = .int .i64 k ∧ x = .int .i64 (left - l.length - szL nTolerance (l.take k)) ∧ 0 ≤ left - l.length - szL nTolerance (l.take k) ∧ Below w.heap.size w wr) (fun _ i _ => l.length - (intOf i).toNat)
    case atStart => exact ⟨0, Nat.zero_le _, rfl, by simp [szL], by simp [szL]; omega, bel⟩
    case round =>
      obtain ⟨k, hk, rfl, rfl, hge, hbr⟩ := hrel
      by_cases hlt : k < l.length
      · obtain ⟨b, o, rfl, -, hb2, hcell⟩ := hA (by omega)
        obtain ⟨d, hd⟩ := exists_at hlt
        obtain ⟨cs, -, hcs, hC⟩ := hcell k d hd
        have hC' := hC
        obtain ⟨rfl, ea0, ea2, ea3⟩ := hC'
        have hc0 := (hbr.cell (p := ⟨b, o + k * 4 + 0, none⟩) (by simp; omega)).trans (hcs 0 (by omega))
        simp at hc0
        have hc1 := (hbr.cell (p := ⟨b, o + k * 4 + 1, none⟩) (by simp; omega)).trans (hcs 1 (by omega))
        simp at hc1
        have hc2 := (hbr.cell (p := ⟨b, o + k * 4 + 2, none⟩) (by simp; omega)).trans (hcs 2 (by omega))
        simp at hc2
        have hc3 := (hbr.cell (p := ⟨b, o + k * 4 + 3, none⟩) (by simp; omega)).trans (hcs 3 (by omega))
        simp at hc3
        clear hcs hcell hA
        have Hs := Lib.hid (szL_take_succ nTolerance l k d hd)
        have hle := szL_take_le nTolerance l (k+1)
        by_cases hneg : left - l.length - szL nTolerance (l.take k) - nTolerance d < 0
        · have hz : szI (left - l.length - szL nTolerance (l.take k)) (nTolerance d) = -1 := szI_neg (by omega)
          have Hf := Lib.hid (show szI left (nL nTolerance l) = -1 by rw [nL_def]; unfold szI; have := Hs.out; rw [if_neg (by omega)])
          go_wp2_with (go_at_call 116; refine (c_laws_szTolerance d _ _ _ hC (by omega) (by omega)).mono ?_; rintro e w1 ⟨rfl, hb⟩; (first | (have hcu2 := Cum.join hcu hb; (try clear hcu); (try clear hc); (try clear hfz); (try clear hsz); (try clear hs0); (try clear hs1); (try clear hs2); (try clear hs3); (try clear hs4); ) | have hcu2 := Cum.mk hb); have hcu := hcu2; clear hcu2; obtain ⟨hc, hfz⟩ := bcell hcu.h; have hsz := hcu.h.size; (try simp at hsz); (try have hs0 := lt_of_succ_le hsz); (try (have hs1 := lt_pred hsz; (try (have hs2 := lt_pred hs1; (try (have hs3 := lt_pred hs2; (try have hs4 := lt_pred hs3))))))))
          go_ret
          exact ⟨ret_int Hf.out.symm, bel⟩
        · have hz : szI (left - l.length - szL nTolerance (l.take k)) (nTolerance d) = left - l.length - szL nTolerance (l.take k) - nTolerance d := szI_pos (by omega)
          go_wp2_with (go_at_call 116; refine (c_laws_szTolerance d _ _ _ hC (by omega) (by omega)).mono ?_; rintro e w1 ⟨rfl, hb⟩; (first | (have hcu2 := Cum.join hcu hb; (try clear hcu); (try clear hc); (try clear hfz); (try clear hsz); (try clear hs0); (try clear hs1); (try clear hs2); (try clear hs3); (try clear hs4); ) | have hcu2 := Cum.mk hb); have hcu := hcu2; clear hcu2; obtain ⟨hc, hfz⟩ := bcell hcu.h; have hsz := hcu.h.size; (try simp at hsz); (try have hs0 := lt_of_succ_le hsz); (try (have hs1 := lt_pred hsz; (try (have hs2 := lt_pred hs1; (try (have hs3 := lt_pred hs2; (try have hs4 := lt_pred hs3))))))))
          go_roundw
          case rel => exact ⟨k + 1, by omega, by go_num, by rw [Hs.out]; go_num, by rw [Hs.out]; omega, bel⟩
          case measure => simp [intOf]; omega
      · obtain rfl : k = l.length := by omega
        rw [List.take_length] at *
        have Hf := Lib.hid (show szI left (nL nTolerance l) = left - l.length - szL nTolerance l by rw [nL_def]; unfold szI; rw [if_pos (by omega)]; omega)
        clear hA
        go_wp2_with fail
        go_ret
        exact ⟨ret_int Hf.out.symm, bel⟩
theorem c_laws_toToleranceS (l : List Tolerance) (v : Value) (w : World) (lo : Nat) (hs : Sl_Tolerance lo w.heap.size w l v) (hn : l.length ≤ 1048576) :
    Calls Tryz.prog 63 #[v] w fun e w' => ∃ A c, e = .returned (.slice A l.length c) ∧ Sl_Tolerance w.heap.size w'.heap.size w' l (.slice A l.length c) ∧ Below w.heap.size w w' := by
  obtain ⟨A, c, rfl, hlc, hc, hA⟩ := hs
  have hmk := run_make_slice (P := Tryz.prog) (z := .agg #[.string ⟨#[]⟩, .bool false, .string ⟨#[]⟩, .int .i64 0]) (size := 4) (bytes := 48) Tryz.underlying42 (by kernel_rfl) l.length (by omega) (by omega)
  go_enter Tryz.func63, Tryz.ntmps63
  go_wp2_with fail
  go_loopw [4] (fun i wr => ∃ (k : Nat) (cs : Array Value), k ≤ l.length ∧ i = .int .i64 k ∧ Below w.heap.size w wr ∧ wr.heap[w.heap.size]? = some (.cells cs 106 (0, 0)) ∧ Part (C_Tolerance) 4 l k cs) (fun i _ => l.length - (intOf i).toNat)
  case atStart => exact ⟨0, _, Nat.zero_le _, rfl, bel, heap_alloc_new _ _, Part.zero (by simp [size_madeCells])⟩
  case round =>
    obtain ⟨k, cs, hk, rfl, hbr, hg, hp⟩ := hrel
    by_cases hlt : k < l.length
    · obtain ⟨b, o, rfl, -, hb2, hcell⟩ := hA (by omega)
      obtain ⟨d, hd⟩ := exists_at hlt
      obtain ⟨es, -, hcs, hC⟩ := hcell k d hd
      have hC' := hC
      obtain ⟨rfl, ea0, ea2, ea3⟩ := hC'
      have hc0 := (hbr.cell (p := ⟨b, o + k * 4 + 0, none⟩) (by simp; omega)).trans (hcs 0 (by omega))
      simp at hc0
      have hc1 := (hbr.cell (p := ⟨b, o + k * 4 + 1, none⟩) (by simp; omega)).trans (hcs 1 (by omega))
      simp at hc1
      have hc2 := (hbr.cell (p := ⟨b, o + k * 4 + 2, none⟩) (by simp; omega)).trans (hcs 2 (by omega))
      simp at hc2
      have hc3 := (hbr.cell (p := ⟨b, o + k * 4 + 3, none⟩) (by simp; omega)).trans (hcs 3 (by omega))
      simp at hc3
      obtain ⟨x0, hx0⟩ := row_cell hg (o := k * 4 + 0) (by rw [hp.1]; omega)
      have hf0 := frozen_row hg (k * 4 + 0)
      rw [Nat.add_zero] at hx0 hf0
      obtain ⟨x1, hx1⟩ := row_cell hg (o := k * 4 + 1) (by rw [hp.1]; omega)
      have hf1 := frozen_row hg (k * 4 + 1)
      obtain ⟨x2, hx2⟩ := row_cell hg (o := k * 4 + 2) (by rw [hp.1]; omega)
      have hf2 := frozen_row hg (k * 4 + 2)
      obtain ⟨x3, hx3⟩ := row_cell hg (o := k * 4 + 3) (by rw [hp.1]; omega)
      have hf3 := frozen_row hg (k * 4 + 3)
      have hgl := row_lt hg
      clear hcs hcell hA
      go_wp2_with (go_at_call 120; refine (c_laws_toTolerance d _ _ hC).mono ?_; rintro e w1 ⟨rfl, hb⟩; (first | (have hcu2 := Cum.join hcu hb; (try clear hcu); (try clear hc); (try clear hfz); (try clear hsz); (try clear hs0); (try clear hs1); (try clear hs2); (try clear hs3); (try clear hs4); ) | have hcu2 := Cum.mk hb); have hcu := hcu2; clear hcu2; obtain ⟨hc, hfz⟩ := bcell hcu.h; have hsz := hcu.h.size; (try simp at hsz); (try have hs0 := lt_of_succ_le hsz); (try (have hs1 := lt_pred hsz; (try (have hs2 := lt_pred hs1; (try (have hs3 := lt_pred hs2; (try have hs4 := lt_pred hs3))))))))
      go_roundw
      case rel => exact ⟨k + 1, putAt cs (k * 4) [.string d.key, .bool d.equal, .string d.value, .int .i64 d.effect], by omega, by go_num, bel, heap_putCells [.string d.key, .bool d.equal, .string d.value, .int .i64 d.effect] _ _ _ _ _ ((hb.block _ hgl).trans hg), hp.store hd rfl hC⟩
      case measure => simp [intOf]; omega
    · obtain rfl : k = l.length := by omega
      clear hA
      go_wp2_with fail
      go_ret
      exact ⟨_, _, rfl, SlOf.of_part hp hg (Nat.le_refl _) (row_lt hg) (Nat.le_refl _) (by omega), bel⟩
theorem c_laws_eqToleranceS (l : List Tolerance) (va vb : Value) (w : World) (lo lo' : Nat) (ha : Sl_Tolerance lo w.heap.size w l va) (hb : Sl_Tolerance lo' w.heap.size w l vb) :
    Calls Tryz.prog 70 #[va, vb] w fun e w' => e = .returned (.bool true) ∧ Below w.heap.size w w' := by
  obtain ⟨A, c, rfl, hlc, hc, hA⟩ := ha
  obtain ⟨B, c', rfl, hlc', hc', hB⟩ := hb
  go_enter Tryz.func70, Tryz.ntmps70
  go_wp2_with fail
  go_loopw [5] (fun i wr => ∃ k : Nat, k ≤ l.length ∧ i = .int .i64 k ∧ Below w.heap.size w wr) (fun i _ => l.length - (intOf i).toNat)
  case atStart => exact ⟨0, Nat.zero_le _, rfl, bel⟩
  case round =>
    obtain ⟨k, hk, rfl, hbr⟩ := hrel
    by_cases hlt : k < l.length
    · obtain ⟨b, o, rfl, -, hb2, hcell⟩ := hA (by omega)
      obtain ⟨b', o', rfl, -, hb2', hcell'⟩ := hB (by omega)
      obtain ⟨d, hd⟩ := exists_at hlt
      obtain ⟨es, -, hcs, hC⟩ := hcell k d hd
      obtain ⟨es', -, hcs', hD⟩ := hcell' k d hd
      have hC' := hC
      have hD' := hD
      obtain ⟨rfl, ea0, ea2, ea3⟩ := hC'
      obtain ⟨rfl, fa0, fa2, fa3⟩ := hD'
      have hc0 := (hbr.cell (p := ⟨b, o + k * 4 + 0, none⟩) (by simp; omega)).trans (hcs 0 (by omega))
      simp at hc0
      have hc1 := (hbr.cell (p := ⟨b, o + k * 4 + 1, none⟩) (by simp; omega)).trans (hcs 1 (by omega))
      simp at hc1
      have hc2 := (hbr.cell (p := ⟨b, o + k * 4 + 2, none⟩) (by simp; omega)).trans (hcs 2 (by omega))
      simp at hc2
      have hc3 := (hbr.cell (p := ⟨b, o + k * 4 + 3, none⟩) (by simp; omega)).trans (hcs 3 (by omega))
      simp at hc3
      have hd0 := (hbr.cell (p := ⟨b', o' + k * 4 + 0, none⟩) (by simp; omega)).trans (hcs' 0 (by omega))
      simp at hd0
      have hd1 := (hbr.cell (p := ⟨b', o' + k * 4 + 1, none⟩) (by simp; omega)).trans (hcs' 1 (by omega))
      simp at hd1
      have hd2 := (hbr.cell (p := ⟨b', o' + k * 4 + 2, none⟩) (by simp; omega)).trans (hcs' 2 (by omega))
      simp at hd2
      have hd3 := (hbr.cell (p := ⟨b', o' + k * 4 + 3, none⟩) (by simp; omega)).trans (hcs' 3 (by omega))
      simp at hd3
      have hk0 : (0 : Int) ≤ k := by omega
      have hk1 : (k : Int) < l.length := by omega
      have hbl : b < wr.heap.size := Nat.lt_of_lt_of_le hb2 hbr.size
      have hbl' : b' < wr.heap.size := Nat.lt_of_lt_of_le hb2' hbr.size
      clear hcs hcell hA hcs' hcell' hB hd
      go_wp2_with fail
      go_region_held3 (fun w' => Below (wr).heap.size (wr) w' ∧ (∀ xb xo, xb < (wr).heap.size → w'.cell? ⟨xb, xo, none⟩ = (wr).cell? ⟨xb, xo, none⟩)) (first | exact keep_drew _ | exact keep_ext (by assumption) (by assumption) | exact keep_same (by assumption) | exact keep_alloc (by assumption) _) (first | (go_at_call 133; refine (c_laws_eqTolerance d _ _ _ hC hD).mono ?_; rintro e w9 ⟨rfl, hb9⟩))
      (have hb := held_step (by assumption); (first | (have hcu2 := Cum.join hcu hb; (try clear hcu); (try clear hc); (try clear hfz); (try clear hsz); (try clear hs0); (try clear hs1); (try clear hs2); (try clear hs3); (try clear hs4); ) | have hcu2 := Cum.mk hb); have hcu := hcu2; clear hcu2; obtain ⟨hc, hfz⟩ := bcell hcu.h; have hsz := hcu.h.size; (try simp at hsz); (try have hs0 := lt_of_succ_le hsz); (try (have hs1 := lt_pred hsz; (try (have hs2 := lt_pred hs1; (try (have hs3 := lt_pred hs2; (try have hs4 := lt_pred hs3))))))))
      go_wp2_with fail
      go_roundw
      case rel => exact ⟨k + 1, by omega, by go_num, bel⟩
      case measure => simp [intOf]; omega
    · obtain rfl : k = l.length := by omega
      clear hA hB
      go_wp2_with fail
      go_ret
      exact ⟨rfl, bel⟩
end Go.Proofs.YtmhlnbihppojmaaGreat
namespace Go.Proofs.YtmhlnbihppojmaaGreat
open Go.RowKit
def nPod (d : Pod) : Nat := d.name.size + nL nLabel d.labels + nL nNeed d.needs + nL nTolerance d.tolerances
theorem C_Pod.open {lo hi : Nat} {w : World} {d : Pod} {cs : List Value} (h : C_Pod lo hi w d cs) : ∃ A1 c1 A5 c5 A6 c6, cs = [.string d.name, .slice A1 d.labels.length c1, .int .i64 d.cpu, .int .i64 d.mem, .int .i64 d.rank, .slice A5 d.needs.length c5, .slice A6 d.tolerances.length c6] := by
  obtain ⟨v1, v5, v6, rfl, a0, a1, a2, a3, a4, a5, a6⟩ := h
  obtain ⟨A1, c1, rfl⟩ := a1.form
  obtain ⟨A5, c5, rfl⟩ := a5.form
  obtain ⟨A6, c6, rfl⟩ := a6.form
  exact ⟨A1, c1, A5, c5, A6, c6, rfl⟩
theorem c_laws_szPod (d : Pod) (cs : List Value) (left : Int) (w : World) (lo : Nat) (h : C_Pod lo w.heap.size w d cs) (h3 : 0 ≤ left) (h4 : left ≤ 1048576) :
    Calls Tryz.prog 15 #[.agg cs.toArray, .int .i64 left] w fun e w' => e = .returned (.int .i64 (szI left (nPod d))) ∧ Below w.heap.size w w' := by
  obtain ⟨v1, v5, v6, rfl, a0, a1, a2, a3, a4, a5, a6⟩ := h
  obtain ⟨A1, c1, rfl⟩ := a1.form
  obtain ⟨A5, c5, rfl⟩ := a5.form
  obtain ⟨A6, c6, rfl⟩ := a6.form
  unfold I64 at a2
  unfold I64 at a3
  unfold I64 at a4
  by_cases g_name : left - (d.name.size : Nat) < 0
  · have Hf := Lib.hid (show szI left (nPod d) = -1 by unfold nPod szI; rw [if_neg (by omega)])
    go_enter Tryz.func15, Tryz.ntmps15
    go_wp2_with (first | (go_at_call 55; refine (c_laws_szLabelS _ _ _ _ _ (Sl_Label.now (by assumption) bel) (by omega) (by omega)).mono ?_; rintro e w1 ⟨rfl, hb⟩; (first | (have hcu2 := Cum.join hcu hb; (try clear hcu); (try clear hc); (try clear hfz); (try clear hsz); (try clear hs0); (try clear hs1); (try clear hs2); (try clear hs3); (try clear hs4); ) | have hcu2 := Cum.mk hb); have hcu := hcu2; clear hcu2; obtain ⟨hc, hfz⟩ := bcell hcu.h; have hsz := hcu.h.size; (try simp at hsz); (try have hs0 := lt_of_succ_le hsz); (try (have hs1 := lt_pred hsz; (try (have hs2 := lt_pred hs1; (try (have hs3 := lt_pred hs2; (try have hs4 := lt_pred hs3)))))))) | (go_at_call 56; refine (c_laws_szNeedS _ _ _ _ _ (Sl_Need.now (by assumption) bel) (by omega) (by omega)).mono ?_; rintro e w1 ⟨rfl, hb⟩; (first | (have hcu2 := Cum.join hcu hb; (try clear hcu); (try clear hc); (try clear hfz); (try clear hsz); (try clear hs0); (try clear hs1); (try clear hs2); (try clear hs3); (try clear hs4); ) | have hcu2 := Cum.mk hb); have hcu := hcu2; clear hcu2; obtain ⟨hc, hfz⟩ := bcell hcu.h; have hsz := hcu.h.size; (try simp at hsz); (try have hs0 := lt_of_succ_le hsz); (try (have hs1 := lt_pred hsz; (try (have hs2 := lt_pred hs1; (try (have hs3 := lt_pred hs2; (try have hs4 := lt_pred hs3)))))))) | (go_at_call 57; refine (c_laws_szToleranceS _ _ _ _ _ (Sl_Tolerance.now (by assumption) bel) (by omega) (by omega)).mono ?_; rintro e w1 ⟨rfl, hb⟩; (first | (have hcu2 := Cum.join hcu hb; (try clear hcu); (try clear hc); (try clear hfz); (try clear hsz); (try clear hs0); (try clear hs1); (try clear hs2); (try clear hs3); (try clear hs4); ) | have hcu2 := Cum.mk hb); have hcu := hcu2; clear hcu2; obtain ⟨hc, hfz⟩ := bcell hcu.h; have hsz := hcu.h.size; (try simp at hsz); (try have hs0 := lt_of_succ_le hsz); (try (have hs1 := lt_pred hsz; (try (have hs2 := lt_pred hs1; (try (have hs3 := lt_pred hs2; (try have hs4 := lt_pred hs3)))))))))
    go_ret
    exact ⟨ret_int Hf.out.symm, bel⟩
  by_cases g_labels : left - (d.name.size : Nat) - (nL nLabel d.labels : Nat) < 0
  · have Hf := Lib.hid (show szI left (nPod d) = -1 by unfold nPod szI; rw [if_neg (by omega)])
    have z_labels : szI (left - (d.name.size : Nat)) (nL nLabel d.labels) = -1 := szI_neg (by omega)
    go_enter Tryz.func15, Tryz.ntmps15
    go_wp2_with (first | (go_at_call 55; refine (c_laws_szLabelS _ _ _ _ _ (Sl_Label.now (by assumption) bel) (by omega) (by omega)).mono ?_; rintro e w1 ⟨rfl, hb⟩; (first | (have hcu2 := Cum.join hcu hb; (try clear hcu); (try clear hc); (try clear hfz); (try clear hsz); (try clear hs0); (try clear hs1); (try clear hs2); (try clear hs3); (try clear hs4); ) | have hcu2 := Cum.mk hb); have hcu := hcu2; clear hcu2; obtain ⟨hc, hfz⟩ := bcell hcu.h; have hsz := hcu.h.size; (try simp at hsz); (try have hs0 := lt_of_succ_le hsz); (try (have hs1 := lt_pred hsz; (try (have hs2 := lt_pred hs1; (try (have hs3 := lt_pred hs2; (try have hs4 := lt_pred hs3)))))))) | (go_at_call 56; refine (c_laws_szNeedS _ _ _ _ _ (Sl_Need.now (by assumption) bel) (by omega) (by omega)).mono ?_; rintro e w1 ⟨rfl, hb⟩; (first | (have hcu2 := Cum.join hcu hb; (try clear hcu); (try clear hc); (try clear hfz); (try clear hsz); (try clear hs0); (try clear hs1); (try clear hs2); (try clear hs3); (try clear hs4); ) | have hcu2 := Cum.mk hb); have hcu := hcu2; clear hcu2; obtain ⟨hc, hfz⟩ := bcell hcu.h; have hsz := hcu.h.size; (try simp at hsz); (try have hs0 := lt_of_succ_le hsz); (try (have hs1 := lt_pred hsz; (try (have hs2 := lt_pred hs1; (try (have hs3 := lt_pred hs2; (try have hs4 := lt_pred hs3)))))))) | (go_at_call 57; refine (c_laws_szToleranceS _ _ _ _ _ (Sl_Tolerance.now (by assumption) bel) (by omega) (by omega)).mono ?_; rintro e w1 ⟨rfl, hb⟩; (first | (have hcu2 := Cum.join hcu hb; (try clear hcu); (try clear hc); (try clear hfz); (try clear hsz); (try clear hs0); (try clear hs1); (try clear hs2); (try clear hs3); (try clear hs4); ) | have hcu2 := Cum.mk hb); have hcu := hcu2; clear hcu2; obtain ⟨hc, hfz⟩ := bcell hcu.h; have hsz := hcu.h.size; (try simp at hsz); (try have hs0 := lt_of_succ_le hsz); (try (have hs1 := lt_pred hsz; (try (have hs2 := lt_pred hs1; (try (have hs3 := lt_pred hs2; (try have hs4 := lt_pred hs3)))))))))
    go_ret
    exact ⟨ret_int Hf.out.symm, bel⟩
  have z_labels : szI (left - (d.name.size : Nat)) (nL nLabel d.labels) = left - (d.name.size : Nat) - (nL nLabel d.labels : Nat) := szI_pos (by omega)
  by_cases g_needs : left - (d.name.size : Nat) - (nL nLabel d.labels : Nat) - (nL nNeed d.needs : Nat) < 0
  · have Hf := Lib.hid (show szI left (nPod d) = -1 by unfold nPod szI; rw [if_neg (by omega)])
    have z_needs : szI (left - (d.name.size : Nat) - (nL nLabel d.labels : Nat)) (nL nNeed d.needs) = -1 := szI_neg (by omega)
    go_enter Tryz.func15, Tryz.ntmps15
    go_wp2_with (first | (go_at_call 55; refine (c_laws_szLabelS _ _ _ _ _ (Sl_Label.now (by assumption) bel) (by omega) (by omega)).mono ?_; rintro e w1 ⟨rfl, hb⟩; (first | (have hcu2 := Cum.join hcu hb; (try clear hcu); (try clear hc); (try clear hfz); (try clear hsz); (try clear hs0); (try clear hs1); (try clear hs2); (try clear hs3); (try clear hs4); ) | have hcu2 := Cum.mk hb); have hcu := hcu2; clear hcu2; obtain ⟨hc, hfz⟩ := bcell hcu.h; have hsz := hcu.h.size; (try simp at hsz); (try have hs0 := lt_of_succ_le hsz); (try (have hs1 := lt_pred hsz; (try (have hs2 := lt_pred hs1; (try (have hs3 := lt_pred hs2; (try have hs4 := lt_pred hs3)))))))) | (go_at_call 56; refine (c_laws_szNeedS _ _ _ _ _ (Sl_Need.now (by assumption) bel) (by omega) (by omega)).mono ?_; rintro e w1 ⟨rfl, hb⟩; (first | (have hcu2 := Cum.join hcu hb; (try clear hcu); (try clear hc); (try clear hfz); (try clear hsz); (try clear hs0); (try clear hs1); (try clear hs2); (try clear hs3); (try clear hs4); ) | have hcu2 := Cum.mk hb); have hcu := hcu2; clear hcu2; obtain ⟨hc, hfz⟩ := bcell hcu.h; have hsz := hcu.h.size; (try simp at hsz); (try have hs0 := lt_of_succ_le hsz); (try (have hs1 := lt_pred hsz; (try (have hs2 := lt_pred hs1; (try (have hs3 := lt_pred hs2; (try have hs4 := lt_pred hs3)))))))) | (go_at_call 57; refine (c_laws_szToleranceS _ _ _ _ _ (Sl_Tolerance.now (by assumption) bel) (by omega) (by omega)).mono ?_; rintro e w1 ⟨rfl, hb⟩; (first | (have hcu2 := Cum.join hcu hb; (try clear hcu); (try clear hc); (try clear hfz); (try clear hsz); (try clear hs0); (try clear hs1); (try clear hs2); (try clear hs3); (try clear hs4); ) | have hcu2 := Cum.mk hb); have hcu := hcu2; clear hcu2; obtain ⟨hc, hfz⟩ := bcell hcu.h; have hsz := hcu.h.size; (try simp at hsz); (try have hs0 := lt_of_succ_le hsz); (try (have hs1 := lt_pred hsz; (try (have hs2 := lt_pred hs1; (try (have hs3 := lt_pred hs2; (try have hs4 := lt_pred hs3)))))))))
    go_ret
    exact ⟨ret_int Hf.out.symm, bel⟩
  have z_needs : szI (left - (d.name.size : Nat) - (nL nLabel d.labels : Nat)) (nL nNeed d.needs) = left - (d.name.size : Nat) - (nL nLabel d.labels : Nat) - (nL nNeed d.needs : Nat) := szI_pos (by omega)
  by_cases g_tolerances : left - (d.name.size : Nat) - (nL nLabel d.labels : Nat) - (nL nNeed d.needs : Nat) - (nL nTolerance d.tolerances : Nat) < 0
  · have Hf := Lib.hid (show szI left (nPod d) = -1 by unfold nPod szI; rw [if_neg (by omega)])
    have z_tolerances : szI (left - (d.name.size : Nat) - (nL nLabel d.labels : Nat) - (nL nNeed d.needs : Nat)) (nL nTolerance d.tolerances) = -1 := szI_neg (by omega)
    go_enter Tryz.func15, Tryz.ntmps15
    go_wp2_with (first | (go_at_call 55; refine (c_laws_szLabelS _ _ _ _ _ (Sl_Label.now (by assumption) bel) (by omega) (by omega)).mono ?_; rintro e w1 ⟨rfl, hb⟩; (first | (have hcu2 := Cum.join hcu hb; (try clear hcu); (try clear hc); (try clear hfz); (try clear hsz); (try clear hs0); (try clear hs1); (try clear hs2); (try clear hs3); (try clear hs4); ) | have hcu2 := Cum.mk hb); have hcu := hcu2; clear hcu2; obtain ⟨hc, hfz⟩ := bcell hcu.h; have hsz := hcu.h.size; (try simp at hsz); (try have hs0 := lt_of_succ_le hsz); (try (have hs1 := lt_pred hsz; (try (have hs2 := lt_pred hs1; (try (have hs3 := lt_pred hs2; (try have hs4 := lt_pred hs3)))))))) | (go_at_call 56; refine (c_laws_szNeedS _ _ _ _ _ (Sl_Need.now (by assumption) bel) (by omega) (by omega)).mono ?_; rintro e w1 ⟨rfl, hb⟩; (first | (have hcu2 := Cum.join hcu hb; (try clear hcu); (try clear hc); (try clear hfz); (try clear hsz); (try clear hs0); (try clear hs1); (try clear hs2); (try clear hs3); (try clear hs4); ) | have hcu2 := Cum.mk hb); have hcu := hcu2; clear hcu2; obtain ⟨hc, hfz⟩ := bcell hcu.h; have hsz := hcu.h.size; (try simp at hsz); (try have hs0 := lt_of_succ_le hsz); (try (have hs1 := lt_pred hsz; (try (have hs2 := lt_pred hs1; (try (have hs3 := lt_pred hs2; (try have hs4 := lt_pred hs3)))))))) | (go_at_call 57; refine (c_laws_szToleranceS _ _ _ _ _ (Sl_Tolerance.now (by assumption) bel) (by omega) (by omega)).mono ?_; rintro e w1 ⟨rfl, hb⟩; (first | (have hcu2 := Cum.join hcu hb; (try clear hcu); (try clear hc); (try clear hfz); (try clear hsz); (try clear hs0); (try clear hs1); (try clear hs2); (try clear hs3); (try clear hs4); ) | have hcu2 := Cum.mk hb); have hcu := hcu2; clear hcu2; obtain ⟨hc, hfz⟩ := bcell hcu.h; have hsz := hcu.h.size; (try simp at hsz); (try have hs0 := lt_of_succ_le hsz); (try (have hs1 := lt_pred hsz; (try (have hs2 := lt_pred hs1; (try (have hs3 := lt_pred hs2; (try have hs4 := lt_pred hs3)))))))))
    go_ret
    exact ⟨ret_int Hf.out.symm, bel⟩
  have z_tolerances : szI (left - (d.name.size : Nat) - (nL nLabel d.labels : Nat) - (nL nNeed d.needs : Nat)) (nL nTolerance d.tolerances) = left - (d.name.size : Nat) - (nL nLabel d.labels : Nat) - (nL nNeed d.needs : Nat) - (nL nTolerance d.tolerances : Nat) := szI_pos (by omega)
  have Hf := Lib.hid (show szI left (nPod d) = left - (d.name.size : Nat) - (nL nLabel d.labels : Nat) - (nL nNeed d.needs : Nat) - (nL nTolerance d.tolerances : Nat) by unfold nPod szI; rw [if_pos (by omega)]; omega)
  go_enter Tryz.func15, Tryz.ntmps15
  go_wp2_with (first | (go_at_call 55; refine (c_laws_szLabelS _ _ _ _ _ (Sl_Label.now (by assumption) bel) (by omega) (by omega)).mono ?_; rintro e w1 ⟨rfl, hb⟩; (first | (have hcu2 := Cum.join hcu hb; (try clear hcu); (try clear hc); (try clear hfz); (try clear hsz); (try clear hs0); (try clear hs1); (try clear hs2); (try clear hs3); (try clear hs4); ) | have hcu2 := Cum.mk hb); have hcu := hcu2; clear hcu2; obtain ⟨hc, hfz⟩ := bcell hcu.h; have hsz := hcu.h.size; (try simp at hsz); (try have hs0 := lt_of_succ_le hsz); (try (have hs1 := lt_pred hsz; (try (have hs2 := lt_pred hs1; (try (have hs3 := lt_pred hs2; (try have hs4 := lt_pred hs3)))))))) | (go_at_call 56; refine (c_laws_szNeedS _ _ _ _ _ (Sl_Need.now (by assumption) bel) (by omega) (by omega)).mono ?_; rintro e w1 ⟨rfl, hb⟩; (first | (have hcu2 := Cum.join hcu hb; (try clear hcu); (try clear hc); (try clear hfz); (try clear hsz); (try clear hs0); (try clear hs1); (try clear hs2); (try clear hs3); (try clear hs4); ) | have hcu2 := Cum.mk hb); have hcu := hcu2; clear hcu2; obtain ⟨hc, hfz⟩ := bcell hcu.h; have hsz := hcu.h.size; (try simp at hsz); (try have hs0 := lt_of_succ_le hsz); (try (have hs1 := lt_pred hsz; (try (have hs2 := lt_pred hs1; (try (have hs3 := lt_pred hs2; (try have hs4 := lt_pred hs3)))))))) | (go_at_call 57; refine (c_laws_szToleranceS _ _ _ _ _ (Sl_Tolerance.now (by assumption) bel) (by omega) (by omega)).mono ?_; rintro e w1 ⟨rfl, hb⟩; (first | (have hcu2 := Cum.join hcu hb; (try clear hcu); (try clear hc); (try clear hfz); (try clear hsz); (try clear hs0); (try clear hs1); (try clear hs2); (try clear hs3); (try clear hs4); ) | have hcu2 := Cum.mk hb); have hcu := hcu2; clear hcu2; obtain ⟨hc, hfz⟩ := bcell hcu.h; have hsz := hcu.h.size; (try simp at hsz); (try have hs0 := lt_of_succ_le hsz); (try (have hs1 := lt_pred hsz; (try (have hs2 := lt_pred hs1; (try (have hs3 := lt_pred hs2; (try have hs4 := lt_pred hs3)))))))))
  go_ret
  exact ⟨ret_int Hf.out.symm, bel⟩
set_option maxHeartbeats 1000000 in
theorem c_laws_toPod (d : Pod) (cs : List Value) (w : World) (lo : Nat) (h : C_Pod lo w.heap.size w d cs) (hn : nPod d ≤ 1048576) :
    Calls Tryz.prog 17 #[.agg cs.toArray] w fun e w' => ∃ cs', e = .returned (.agg cs'.toArray) ∧ C_Pod w.heap.size w'.heap.size w' d cs' ∧ Below w.heap.size w w' := by
  obtain ⟨v1, v5, v6, rfl, a0, a1, a2, a3, a4, a5, a6⟩ := h
  obtain ⟨A1, c1, rfl⟩ := a1.form
  obtain ⟨A5, c5, rfl⟩ := a5.form
  obtain ⟨A6, c6, rfl⟩ := a6.form
  unfold I64 at a2
  unfold I64 at a3
  unfold I64 at a4
  unfold nPod at hn
  have m1 : d.labels.length ≤ 1048576 := by have := nL_def nLabel d.labels; omega
  have m5 : d.needs.length ≤ 1048576 := by have := nL_def nNeed d.needs; omega
  have m6 : d.tolerances.length ≤ 1048576 := by have := nL_def nTolerance d.tolerances; omega
  go_enter Tryz.func17, Tryz.ntmps17
  go_wp2_with fail
  refine (c_laws_toLabelS _ _ _ _ (Sl_Label.now (by assumption) bel) (by omega)).mono ?_
  rintro e w1 ⟨B1, b1, rfl, r1, hb⟩
  (first | (have hcu2 := Cum.join hcu hb; (try clear hcu); (try clear hc); (try clear hfz); (try clear hsz); (try clear hs0); (try clear hs1); (try clear hs2); (try clear hs3); (try clear hs4); ) | have hcu2 := Cum.mk hb); have hcu := hcu2; clear hcu2; obtain ⟨hc, hfz⟩ := bcell hcu.h; have hsz := hcu.h.size; (try simp at hsz); (try have hs0 := lt_of_succ_le hsz); (try (have hs1 := lt_pred hsz; (try (have hs2 := lt_pred hs1; (try (have hs3 := lt_pred hs2; (try have hs4 := lt_pred hs3)))))))
  have st1 := hb.size
  (try simp at st1)
  have su1 : w.heap.size + 1 + 1 < w1.heap.size := by omega
  have sv1 : w.heap.size + 1 < w1.heap.size := by omega
  have sw1 : w.heap.size < w1.heap.size := by omega
  go_wp2_with fail
  refine (c_laws_toNeedS _ _ _ _ (Sl_Need.now (by assumption) bel) (by omega)).mono ?_
  rintro e w5 ⟨B5, b5, rfl, r5, hb⟩
  (first | (have hcu2 := Cum.join hcu hb; (try clear hcu); (try clear hc); (try clear hfz); (try clear hsz); (try clear hs0); (try clear hs1); (try clear hs2); (try clear hs3); (try clear hs4); ) | have hcu2 := Cum.mk hb); have hcu := hcu2; clear hcu2; obtain ⟨hc, hfz⟩ := bcell hcu.h; have hsz := hcu.h.size; (try simp at hsz); (try have hs0 := lt_of_succ_le hsz); (try (have hs1 := lt_pred hsz; (try (have hs2 := lt_pred hs1; (try (have hs3 := lt_pred hs2; (try have hs4 := lt_pred hs3)))))))
  have st5 := hb.size
  (try simp at st5)
  have su5 : w.heap.size + 1 + 1 < w5.heap.size := by omega
  have sv5 : w.heap.size + 1 < w5.heap.size := by omega
  have sw5 : w.heap.size < w5.heap.size := by omega
  go_wp2_with fail
  refine (c_laws_toToleranceS _ _ _ _ (Sl_Tolerance.now (by assumption) bel) (by omega)).mono ?_
  rintro e w6 ⟨B6, b6, rfl, r6, hb⟩
  (first | (have hcu2 := Cum.join hcu hb; (try clear hcu); (try clear hc); (try clear hfz); (try clear hsz); (try clear hs0); (try clear hs1); (try clear hs2); (try clear hs3); (try clear hs4); ) | have hcu2 := Cum.mk hb); have hcu := hcu2; clear hcu2; obtain ⟨hc, hfz⟩ := bcell hcu.h; have hsz := hcu.h.size; (try simp at hsz); (try have hs0 := lt_of_succ_le hsz); (try (have hs1 := lt_pred hsz; (try (have hs2 := lt_pred hs1; (try (have hs3 := lt_pred hs2; (try have hs4 := lt_pred hs3)))))))
  have st6 := hb.size
  (try simp at st6)
  have su6 : w.heap.size + 1 + 1 < w6.heap.size := by omega
  have sv6 : w.heap.size + 1 < w6.heap.size := by omega
  have sw6 : w.heap.size < w6.heap.size := by omega
  go_wp2_with fail
  exact bodyPost_ret (v := .agg #[.string d.name, .slice B1 d.labels.length b1, .int .i64 d.cpu, .int .i64 d.mem, .int .i64 d.rank, .slice B5 d.needs.length b5, .slice B6 d.tolerances.length b6]) (by simp only [results, Tryz.results17]; go_simp) rfl ⟨[.string d.name, .slice B1 d.labels.length b1, .int .i64 d.cpu, .int .i64 d.mem, .int .i64 d.rank, .slice B5 d.needs.length b5, .slice B6 d.tolerances.length b6], rfl, ⟨_, _, _, rfl, a0, SlOf.keep r1 (by repeat (first | (with_reducible exact Same.refl _ _ _) | ((with_reducible refine same_setCell ?_ ?_); focus (simp; (try omega))) | ((with_reducible refine same_alloc ?_ ?_); focus (simp; (try omega))) | (with_reducible refine same_drewN ?_ _) | ((with_reducible (apply same_step; assumption)); focus (simp; (try omega))))) (by simp; try omega) (by simp; try omega) (fun _ _ _ h => h), a2, a3, a4, SlOf.keep r5 (by repeat (first | (with_reducible exact Same.refl _ _ _) | ((with_reducible refine same_setCell ?_ ?_); focus (simp; (try omega))) | ((with_reducible refine same_alloc ?_ ?_); focus (simp; (try omega))) | (with_reducible refine same_drewN ?_ _) | ((with_reducible (apply same_step; assumption)); focus (simp; (try omega))))) (by simp; try omega) (by simp; try omega) (fun _ _ _ h => h.keep (by repeat (first | (with_reducible exact Same.refl _ _ _) | ((with_reducible refine same_setCell ?_ ?_); focus (simp; (try omega))) | ((with_reducible refine same_alloc ?_ ?_); focus (simp; (try omega))) | (with_reducible refine same_drewN ?_ _) | ((with_reducible (apply same_step; assumption)); focus (simp; (try omega))))) (by simp; try omega) (by simp; try omega)), SlOf.keep r6 (by repeat (first | (with_reducible exact Same.refl _ _ _) | ((with_reducible refine same_setCell ?_ ?_); focus (simp; (try omega))) | ((with_reducible refine same_alloc ?_ ?_); focus (simp; (try omega))) | (with_reducible refine same_drewN ?_ _) | ((with_reducible (apply same_step; assumption)); focus (simp; (try omega))))) (by simp; try omega) (by simp; try omega) (fun _ _ _ h => h)⟩, bel⟩
theorem c_laws_eqPod (d : Pod) (cs cs' : List Value) (w : World) (lo lo' : Nat) (h : C_Pod lo w.heap.size w d cs) (h' : C_Pod lo' w.heap.size w d cs') :
    Calls Tryz.prog 19 #[.agg cs.toArray, .agg cs'.toArray] w fun e w' => e = .returned (.bool true) ∧ Below w.heap.size w w' := by
  obtain ⟨v1, v5, v6, rfl, a0, a1, a2, a3, a4, a5, a6⟩ := h
  obtain ⟨A1, c1, rfl⟩ := a1.form
  obtain ⟨A5, c5, rfl⟩ := a5.form
  obtain ⟨A6, c6, rfl⟩ := a6.form
  unfold I64 at a2
  unfold I64 at a3
  unfold I64 at a4
  obtain ⟨zv1, zv5, zv6, rfl, za0, za1, za2, za3, za4, za5, za6⟩ := h'
  obtain ⟨zA1, zc1, rfl⟩ := za1.form
  obtain ⟨zA5, zc5, rfl⟩ := za5.form
  obtain ⟨zA6, zc6, rfl⟩ := za6.form
  unfold I64 at za2
  unfold I64 at za3
  unfold I64 at za4
  go_enter Tryz.func19, Tryz.ntmps19
  go_wp2_with (first | (go_at_call 68; refine (c_laws_eqLabelS _ _ _ _ _ _ (Sl_Label.now (by assumption) bel) (Sl_Label.now (by assumption) bel)).mono ?_; rintro e w1 ⟨rfl, hb⟩; (first | (have hcu2 := Cum.join hcu hb; (try clear hcu); (try clear hc); (try clear hfz); (try clear hsz); (try clear hs0); (try clear hs1); (try clear hs2); (try clear hs3); (try clear hs4); ) | have hcu2 := Cum.mk hb); have hcu := hcu2; clear hcu2; obtain ⟨hc, hfz⟩ := bcell hcu.h; have hsz := hcu.h.size; (try simp at hsz); (try have hs0 := lt_of_succ_le hsz); (try (have hs1 := lt_pred hsz; (try (have hs2 := lt_pred hs1; (try (have hs3 := lt_pred hs2; (try have hs4 := lt_pred hs3)))))))) | (go_at_call 69; refine (c_laws_eqNeedS _ _ _ _ _ _ (Sl_Need.now (by assumption) bel) (Sl_Need.now (by assumption) bel)).mono ?_; rintro e w1 ⟨rfl, hb⟩; (first | (have hcu2 := Cum.join hcu hb; (try clear hcu); (try clear hc); (try clear hfz); (try clear hsz); (try clear hs0); (try clear hs1); (try clear hs2); (try clear hs3); (try clear hs4); ) | have hcu2 := Cum.mk hb); have hcu := hcu2; clear hcu2; obtain ⟨hc, hfz⟩ := bcell hcu.h; have hsz := hcu.h.size; (try simp at hsz); (try have hs0 := lt_of_succ_le hsz); (try (have hs1 := lt_pred hsz; (try (have hs2 := lt_pred hs1; (try (have hs3 := lt_pred hs2; (try have hs4 := lt_pred hs3)))))))) | (go_at_call 70; refine (c_laws_eqToleranceS _ _ _ _ _ _ (Sl_Tolerance.now (by assumption) bel) (Sl_Tolerance.now (by assumption) bel)).mono ?_; rintro e w1 ⟨rfl, hb⟩; (first | (have hcu2 := Cum.join hcu hb; (try clear hcu); (try clear hc); (try clear hfz); (try clear hsz); (try clear hs0); (try clear hs1); (try clear hs2); (try clear hs3); (try clear hs4); ) | have hcu2 := Cum.mk hb); have hcu := hcu2; clear hcu2; obtain ⟨hc, hfz⟩ := bcell hcu.h; have hsz := hcu.h.size; (try simp at hsz); (try have hs0 := lt_of_succ_le hsz); (try (have hs1 := lt_pred hsz; (try (have hs2 := lt_pred hs1; (try (have hs3 := lt_pred hs2; (try have hs4 := lt_pred hs3)))))))))
  go_ret
  exact ⟨rfl, bel⟩
end Go.Proofs.YtmhlnbihppojmaaGreat
namespace Go.Proofs.YtmhlnbihppojmaaGreat
open Go.RowKit
/-- Blocks that are not in S are the same in both worlds. -/
structure Aside (S : Nat → Prop) (w w' : World) : Prop where
  os : w'.os = w.os
  tape : w'.tape = w.tape
  output : w'.output = w.output
  size : w.heap.size ≤ w'.heap.size
  block : ∀ b, b < w.heap.size → ¬ S b → w'.heap[b]? = w.heap[b]?
theorem Aside.refl (S : Nat → Prop) (w : World) : Aside S w w := ⟨rfl, rfl, rfl, Nat.le_refl _, fun _ _ _ => rfl⟩
theorem Aside.trans {S : Nat → Prop} {a b c : World} (h : Aside S a b) (k : Aside S b c) : Aside S a c :=
  ⟨k.os.trans h.os, k.tape.trans h.tape, k.output.trans h.output, Nat.le_trans h.size k.size, fun i hi hs => (k.block i (Nat.lt_of_lt_of_le hi h.size) hs).trans (h.block i hi hs)⟩
theorem Aside.mono {S S' : Nat → Prop} {a b : World} (h : Aside S a b) (hs : ∀ i, S i → S' i) : Aside S' a b := ⟨h.os, h.tape, h.output, h.size, fun i hi hn => h.block i hi (fun x => hn (hs i x))⟩
theorem Aside.of_below {S : Nat → Prop} {a b : World} (h : Below a.heap.size a b) : Aside S a b := ⟨h.os, h.tape, h.output, h.size, fun i hi _ => h.block i hi⟩
theorem Aside.below {S : Nat → Prop} {B : Nat} {a b : World} (h : Aside S a b) (hB : B ≤ a.heap.size) (hs : ∀ i, S i → B ≤ i) : Below B a b :=
  ⟨h.os, h.tape, h.output, h.size, fun i hi => h.block i (Nat.lt_of_lt_of_le hi hB) (fun x => absurd (hs i x) (by omega))⟩
theorem Aside.setCell {S : Nat → Prop} {a b : World} {p : Addr} {u : Value} (h : Aside S a b) (hp : S p.block) : Aside S a (b.setCell p u) :=
  h.trans ⟨rfl, rfl, rfl, by simp [World.setCell], fun i _ hn => Below.heap_setCell b p u i (fun e => hn (e ▸ hp))⟩
/-- v is a slice of the strings l, in a row of a block of S. -/
def OwnS (S : Nat → Prop) (w : World) (l : List ByteArray) (v : Value) : Prop :=
  ∃ A c, v = .slice A l.length c ∧ l.length ≤ c ∧ c ≤ 9223372036854775807 ∧ (0 < l.length → ∃ g cur, A = some ⟨g, 0, none⟩ ∧ S g ∧ w.heap[g]? = some (.cells cur 9 (0, 0)) ∧ ∀ (i : Nat) (s : ByteArray), l[i]? = some s → cur[i]? = some (Value.string s) ∧ s.size ≤ 9223372036854775807)
theorem OwnS.form {S : Nat → Prop} {w : World} {l : List ByteArray} {v : Value} (h : OwnS S w l v) : ∃ A c, v = .slice A l.length c := by
  obtain ⟨A, c, hv, _⟩ := h
  exact ⟨A, c, hv⟩
theorem OwnS.carry {S S' : Nat → Prop} {w w' : World} {l : List ByteArray} {v : Value} (h : OwnS S w l v) (hs : ∀ b, S b → w'.heap[b]? = w.heap[b]?) (hS : ∀ b, S b → S' b) : OwnS S' w' l v := by
  obtain ⟨A, c, hv, h1, h2, h3⟩ := h
  refine ⟨A, c, hv, h1, h2, fun hp => ?_⟩
  obtain ⟨g, cur, hA, hg, hr, hc⟩ := h3 hp
  exact ⟨g, cur, hA, hS g hg, (hs g hg).trans hr, hc⟩
theorem OwnS.toC {S : Nat → Prop} {lo hi : Nat} {w : World} {l : List ByteArray} {v : Value} (h : OwnS S w l v) (hS : ∀ b, S b → lo ≤ b ∧ b < hi) : Sl_Str lo hi w l v := by
  obtain ⟨A, c, rfl, h1, h2, h3⟩ := h
  refine ⟨A, c, rfl, h1, h2, fun hp => ?_⟩
  obtain ⟨g, cur, rfl, hg, hr, hc⟩ := h3 hp
  refine ⟨g, 0, rfl, (hS g hg).1, (hS g hg).2, fun i s hs => ⟨[.string s], rfl, fun j hj => ?_, rfl, (hc i s hs).2⟩⟩
  obtain rfl : j = 0 := by omega
  rw [cell_of_row w g _ cur _ _ hr]
  simpa using (hc i s hs).1
def digit (k : Nat) : ByteArray := ⟨#[UInt8.ofNat (48 + k % 10)]⟩
def mkL (k : Nat) (out : ByteArray) : ByteArray := if k = 0 then out else mkL (k / 10) (digit k ++ out)
  termination_by k
  decreasing_by omega
theorem mkL_zero (out : ByteArray) : mkL 0 out = out := by rw [mkL]; rfl
theorem mkL_pos (k : Nat) (out : ByteArray) (h : 0 < k) : mkL k out = mkL (k / 10) (digit k ++ out) := by rw [mkL, if_neg (by omega)]
/-- The mark's text. -/
def mkS (k : Nat) : ByteArray := ⟨#[109]⟩ ++ mkL k ⟨#[]⟩
theorem mkL_size (k : Nat) (out : ByteArray) : (mkL k out).size ≤ out.size + k := by
  induction k using Nat.strongRecOn generalizing out with
  | ind k ih =>
    rcases Nat.eq_zero_or_pos k with rfl | h
    · rw [mkL_zero]; omega
    · rw [mkL_pos k out h]
      have h1 := ih (k / 10) (by omega) (digit k ++ out)
      have h2 : (digit k ++ out).size = 1 + out.size := by rw [ByteArray.size_append]; rfl
      omega
def mkI (k : Int) : ByteArray := mkS k.toNat
theorem mkI_size (k : Int) (h : k ≤ 4611686018427387904) : (mkI k).size ≤ 9223372036854775807 := by
  unfold mkI mkS
  have h1 := mkL_size k.toNat ⟨#[]⟩
  rw [ByteArray.size_append]
  have h2 : (⟨#[109]⟩ : ByteArray).size = 1 := rfl
  have h3 : (⟨#[]⟩ : ByteArray).size = 0 := rfl
  omega
/-- The strings l bear the marks from k on. -/
def MkSs (k : Int) (l : List ByteArray) : Prop := ∀ (i : Nat) (s : ByteArray), l[i]? = some s → s = mkI (k + i)
theorem aside_set {S : Nat → Prop} {a b : World} {p : Addr} {u : Value} (hp : S p.block) (h : Aside S a b) : Aside S a (b.setCell p u) := h.setCell hp
theorem aside_alloc {S : Nat → Prop} {a b : World} {o : Obj} (h : Aside S a b) : Aside S a (b.alloc o) :=
  h.trans ⟨rfl, rfl, rfl, by simp, fun i hi _ => Below.heap_alloc b o i hi⟩
theorem heap_at {w : World} {o : Obj} {b : Nat} (h : b = w.heap.size) : (w.alloc o).heap[b]? = some o := by subst h; exact heap_alloc_new w o
theorem ownsRow_carry {w w' : World} {base : Nat} {e : TypeId} {size : Nat} {v : Value} {n : Nat} {xs : List Value} (h : w.ownsRow base e size v n xs) (hb : ∀ g, v.ownBlock = some g → w'.heap[g]? = w.heap[g]?) : w'.ownsRow base e size v n xs := by
  refine ⟨h.1, ?_⟩
  rcases h.2 with h0 | ⟨g, cap, cur, rfl, h1, h2, h3⟩
  · exact .inl h0
  · exact .inr ⟨g, cap, cur, rfl, h1, (hb g rfl).trans h2, h3⟩
theorem size_strs {w : World} {lo hi : Nat} {l : List ByteArray} {v : Value} (h : Sl_Str lo hi w l v) : ∀ s ∈ l, s.size ≤ 9223372036854775807 := by
  intro s hs
  obtain ⟨i, hi⟩ := List.getElem?_of_mem hs
  obtain ⟨A, c, rfl, -, -, h3⟩ := h
  obtain ⟨b, o, -, -, -, hcell⟩ := h3 (Nat.lt_of_le_of_lt (Nat.zero_le i) (List.getElem?_eq_some_iff.1 hi).1)
  obtain ⟨cs, -, -, -, h4⟩ := hcell i s hi
  exact h4
theorem run_append_none {P : Program} (w : World) (t ty : TypeId) (base : Nat) (e : TypeId) (i : TypeInfo) (size : Nat) (ht : P.underlying t = some (.slice e)) (hi : P.info? e = some i)
    (v : Value) (n : Nat) (xs : List Value) (hown : w.ownsRow base e size v n xs) (c : Nat) :
    (Builtin.append_ #[t, t] ty #[v, .slice none 0 c]).run P w = .ok v w := by
  rcases hown.2 with ⟨rfl, rfl⟩ | ⟨g, cap, cur, rfl, hb, hg, hnc, _⟩
  · simp [Builtin.append_, run_underlying ht, sizeOf, typeInfo, hi, Builtin.lenOf, Builtin.firstCells]
  · simp [Builtin.append_, run_underlying ht, sizeOf, typeInfo, hi, Builtin.lenOf, Builtin.firstCells, loadCells, storeCells, hnc]
theorem wpList_append_of {P : Program} {w : World} {ops : Array Oper} {rest : List Oper} {o : Oper} {a : Act} {Q : Exit → Act → World → Prop} (hgd : o.guard = none) (s x : Operand) (t : TypeId)
    (ho : o.op = .call { callee := .builtin .append, args := #[s, x], argTypes := #[t, t] }) (v u v' : Value) (w' : World) (hs : a.eval s = v) (hx : a.eval x = u)
    (hr : (Builtin.append_ #[t, t] o.type #[v, u]).run P w = .ok v' w') (h : wpList P ops Q rest (a.put o.dst v') w') : wpList P ops Q (o :: rest) a w :=
  wpList_plain hgd fun K hK => by
    unfold Oper.wp execOp
    simp only [ho, resolve, invoke, builtin, Sem.run_bind, Sem.run_pure, Result.andThen_ok, List.map_toArray, List.map_cons, List.map_nil, hs, hx, hr]
    exact hK _ _ h
theorem own_empty {w : World} {e : TypeId} {size base B : Nat} (hB : B = w.heap.size) (hb : base ≤ w.heap.size) : (w.alloc (.cells #[] e)).ownsRow base e size (.slice (some ⟨B, 0, none⟩) 0 0) 0 [] := by
  subst hB
  exact World.ownsRow_made w #[] 0 hb (by decide) (by simp)
theorem own_form {w : World} {base : Nat} {e : TypeId} {size : Nat} {v : Value} {n : Nat} {xs : List Value} (h : w.ownsRow base e size v n xs) : ∃ A c, v = .slice A n c := by
  rcases h.2 with ⟨rfl, rfl⟩ | ⟨g, cap, cur, rfl, _⟩
  · exact ⟨_, _, rfl⟩
  · exact ⟨_, _, rfl⟩
/-- Rows of different kinds are different blocks. -/
theorem own_apart {w : World} {base base' : Nat} {e e' : TypeId} {size size' : Nat} {v v' : Value} {n n' : Nat} {xs xs' : List Value} (h : w.ownsRow base e size v n xs) (h' : w.ownsRow base' e' size' v' n' xs') (he : e ≠ e') : ∀ g, v.ownBlock = some g → v'.ownBlock ≠ some g := by
  intro g h1 h2
  rcases h.2 with ⟨rfl, -⟩ | ⟨g1, cap, cur, rfl, -, hg, -⟩
  · cases h1
  · rcases h'.2 with ⟨rfl, -⟩ | ⟨g2, cap', cur', rfl, -, hg', -⟩
    · cases h2
    · simp [Value.ownBlock] at h1 h2
      subst h1 h2
      rw [hg] at hg'
      simp at hg'
      exact he hg'.2
theorem own_row {w : World} {base : Nat} {e : TypeId} {size : Nat} {g n cap : Nat} {xs : List Value} (h : w.ownsRow base e size (.slice (some ⟨g, 0, none⟩) n cap) n xs) : ∃ cur, w.heap[g]? = some (.cells cur e (0, 0)) ∧ n ≤ cap ∧ cap ≤ maxLen ∧ cur.size = cap * size ∧ cur.toList.take (n * size) = xs ∧ base ≤ g := by
  rcases h.2 with ⟨h1, -⟩ | ⟨g1, cap1, cur, h1, h2, h3, h4, h5, h6, h7⟩
  · cases h1
  · simp only [Value.slice.injEq, Option.some.injEq, Addr.mk.injEq, true_and] at h1
    obtain ⟨⟨rfl, -⟩, rfl⟩ := h1
    exact ⟨cur, h3, h4, h5, h6, h7, h2⟩
theorem step_append_of {P : Program} {w : World} {ops : Array Oper} {o : Oper} {a : Act} {K : Act → World → Prop} {Q : Exit → Act → World → Prop} {E : Prop} (hgd : o.guard = none) (s x : Operand) (t : TypeId)
    (ho : o.op = .call { callee := .builtin .append, args := #[s, x], argTypes := #[t, t] }) (v u v' : Value) (w' : World) (hs : a.eval s = v) (hx : a.eval x = u)
    (hr : (Builtin.append_ #[t, t] o.type #[v, u]).run P w = .ok v' w') (h : K (a.put o.dst v') w') : if Region.wanted o (yielded ops a.tmps) = true then Oper.wp P o a w K Q else E := by
  have hw : Region.wanted o (yielded ops a.tmps) = true := by simp [Region.wanted, hgd]
  rw [if_pos hw]
  unfold Oper.wp execOp
  simp only [ho, resolve, invoke, builtin, Sem.run_bind, Sem.run_pure, Result.andThen_ok, List.map_toArray, List.map_cons, List.map_nil, hs, hx, hr]
  exact h
theorem own_eq {w w' : World} {base : Nat} {e : TypeId} {size : Nat} {v : Value} {n : Nat} {xs : List Value} (h : w.ownsRow base e size v n xs) (he : w'.heap = w.heap) : w'.ownsRow base e size v n xs := ownsRow_carry h (fun q _ => by rw [he])
theorem own_less {w : World} {base base' : Nat} {e : TypeId} {size : Nat} {v : Value} {n : Nat} {xs : List Value} (h : w.ownsRow base e size v n xs) (hb : base' ≤ base) : w.ownsRow base' e size v n xs := by
  refine ⟨h.1, ?_⟩
  rcases h.2 with h0 | ⟨g, cap, cur, h1, h2, h3⟩
  · exact .inl h0
  · exact .inr ⟨g, cap, cur, h1, Nat.le_trans hb h2, h3⟩
theorem row3 {w : World} {b : Nat} {a0 a1 a2 : Value} {e : TypeId} (hr : w.heap[b]? = some (.cells #[a0, a1, a2] e (0, 0))) :
    w.cell? ⟨b, 0, none⟩ = some a0 ∧ w.cell? ⟨b, 1, none⟩ = some a1 ∧ w.cell? ⟨b, 2, none⟩ = some a2 ∧ ∀ o, w.frozen? ⟨b, o, none⟩ = false :=
  ⟨by rw [cell_of_row _ _ _ _ _ _ hr]; rfl, by rw [cell_of_row _ _ _ _ _ _ hr]; rfl, by rw [cell_of_row _ _ _ _ _ _ hr]; rfl, fun o => frozen_row hr o⟩
structure Kept (P : Prop) : Prop where
  out : P
theorem comb {P G : Prop} (f : Kept P → G) (p : P) : G := f ⟨p⟩
end Go.Proofs.YtmhlnbihppojmaaGreat
