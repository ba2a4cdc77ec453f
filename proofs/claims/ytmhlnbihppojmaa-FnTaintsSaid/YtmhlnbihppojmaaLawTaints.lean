/- The walk of the law FnTaints. No conditions. Written by wip/tools/genfntaints.py. -/
import Derived.Test.YtmhlnbihppojmaaDrawL
import Derived.Test.YtmhlnbihppojmaaSorted
namespace Go.Proofs.Ytmhlnbihppojmaa
open Go.RowKit

theorem sortTB_ok {l : List Taint} (h : (sortTB l).2 = true) : taintsB (sortTB l).1 = true := by
  unfold sortTB at h ⊢
  split at h
  · cases h
  · split at h
    · rename_i h1 h2
      rw [if_neg h1, if_pos h2]
      exact h2
    · cases h
theorem sortTolB_ok {l : List Tolerance} (h : (sortTolB l).2 = true) : tolsOkB (sortTolB l).1 = true := by
  unfold sortTolB at h ⊢
  split at h
  · cases h
  · split at h
    · rename_i h1 h2
      rw [if_neg h1, if_pos h2]
      exact h2
    · cases h
theorem C_of_sl {D : Type} {C : D → List Value → Prop} {enc : D → List Value} {sz lo hi : Nat} {w : World} {l : List D} {v : Value} (hC : ∀ d es, C d es → es = enc d) (h : SlOf C sz lo hi w l v) : ∀ d ∈ l, C d (enc d) := by
  intro d hd
  obtain ⟨A, c, rfl, -, -, hA⟩ := h
  obtain ⟨i, hi⟩ := List.getElem?_of_mem hd
  obtain ⟨b, o, -, -, -, hc⟩ := hA (by have := (List.getElem?_eq_some_iff.1 hi).1; omega)
  obtain ⟨es, -, -, h1⟩ := hc i d hi
  obtain rfl := hC d es h1
  exact h1
theorem sl_nilT (lo : Nat) (w : World) : Sl_Taint lo w.heap.size w [] (.slice none 0 0) := ⟨none, 0, rfl, Nat.le_refl _, by decide, fun h => by simp at h⟩
set_option maxHeartbeats 8000000 in
set_option maxRecDepth 20000 in
theorem w_FnTaints (d0 : List UInt8) (v0 : Value) (w : World) (h0 : R_bytes w d0 v0) :
    Calls Try.prog 5 #[v0] w fun e w' => e = .returned (.bool true) ∧ Below w.heap.size w w' := by
  have H0 := Lib.hid h0
  obtain ⟨A0, c0, rfl, -⟩ := h0
  by_cases hq : d0.length ≤ 1048576
  · go_enter Try.func5, Try.ntmps5
    go_wp2_with fail
    refine (c_laws_big_no d0 A0 c0 _ hq).mono ?_
    rintro e w0 ⟨rfl, rfl⟩
    go_wp2_with fail
    refine (c_spec_DrawSortTaints d0 _ _ _ H0.out hq).mono ?_
    rintro e w1 ⟨La, Aa, ca, rfl, hA, hla, hb1⟩
    have HA := Lib.hid hA
    clear hA
    go_wp2_with fail
    refine (c_spec_DrawSortTolerances d0 _ _ _ (SlOf.now H0.out hb1) hq).mono ?_
    rintro e w2 ⟨Lb, Ab, cb, rfl, hB, hlb, hb2⟩
    have HB := Lib.hid hB
    clear hB
    go_wp2_with fail
    refine (c_impl_SortTaints La _ _ _ (Sl_Taint.now HA.out hb2) (by omega)).mono ?_
    rintro e w3 ⟨Ax, cx, rfl, hX, hb3⟩
    have HX := Lib.hid hX
    clear hX
    go_wp2_with fail
    refine (c_impl_SortTolerances Lb _ _ _ (Sl_Tolerance.now HB.out hb3) (by omega)).mono ?_
    rintro e w4 ⟨Ay, cy, rfl, hY, hb4⟩
    have HY := Lib.hid hY
    clear hY
    go_wp2_with fail
    refine (c_spec_SortTaints La _ _ _ (Sl_Taint.now HA.out (ext_trans hb2 (ext_trans hb3 hb4))) (by omega)).mono ?_
    rintro e w5 ⟨Au, cu, rfl, hU, hb5⟩
    have HU := Lib.hid hU
    clear hU
    go_wp2_with fail
    refine (c_spec_SortTolerances Lb _ _ _ (Sl_Tolerance.now HB.out (ext_trans hb3 (ext_trans hb4 hb5))) (by omega)).mono ?_
    rintro e w6 ⟨Av, cv, rfl, hV, hb6⟩
    have HV := Lib.hid hV
    clear hV
    obtain ⟨Lx, hLx⟩ : ∃ L, L = (sortTB La).1 := ⟨_, rfl⟩
    obtain ⟨Bx, hBx⟩ : ∃ L, L = (sortTB La).2 := ⟨_, rfl⟩
    obtain ⟨Ly, hLy⟩ : ∃ L, L = (sortTolB Lb).1 := ⟨_, rfl⟩
    obtain ⟨By, hBy⟩ : ∃ L, L = (sortTolB Lb).2 := ⟨_, rfl⟩
    have HCx := Lib.hid (show Lx.length ≤ La.length ∧ ∀ d ∈ Lx, C_Taint d (encT d) by rw [hLx]; exact sortTB_all (C_of_sl encT_C HA.out))
    have HCy := Lib.hid (show Ly.length ≤ Lb.length ∧ ∀ d ∈ Ly, C_Tolerance d (encTol d) by rw [hLy]; exact sortTolB_all (C_of_sl encTol_C HB.out))
    have HTx := Lib.hid (show Bx = true → taintsB Lx = true by rw [hLx, hBx]; exact sortTB_ok)
    have HTy := Lib.hid (show By = true → tolsOkB Ly = true by rw [hLy, hBy]; exact sortTolB_ok)
    rw [← hLx] at HX HU ⊢
    rw [← hBx]
    rw [← hLy] at HY HV ⊢
    rw [← hBy]
    have hx1 := HCx.out.1
    have hy1 := HCy.out.1
    have B36 := ext_trans hb4 (ext_trans hb5 hb6)
    have B46 := ext_trans hb5 hb6
    have Bw6 := ext_trans hb1 (ext_trans hb2 (ext_trans hb3 B36))
    have SX := Lib.hid (Sl_Taint.now (RowE.sl encT_len HX.out HCx.out.2) B36)
    have SY := Lib.hid (Sl_Tolerance.now (RowE.sl encTol_len HY.out HCy.out.2) B46)
    have SU := Lib.hid (Sl_Taint.now (RowE.sl encT_len HU.out HCx.out.2) hb6)
    have SV := Lib.hid (RowE.sl encTol_len HV.out HCy.out.2)
    clear hLx hBx hLy hBy hb1 hb2 hb3 hb4 hb5 hb6 B36 B46
    go_wp2_with fail
    go_loopw [13] (fun i wr => ∃ k : Nat, k ≤ Lx.length ∧ i = .int .i64 k ∧ Below w6.heap.size w6 wr) (fun i _ => Lx.length - (intOf i).toNat)
    case atStart => exact ⟨0, Nat.zero_le _, rfl, Below.refl _ _⟩
    case round =>
      obtain ⟨k, hk, rfl, hbr⟩ := hrel
      by_cases hlt : k < Lx.length
      · obtain ⟨d, hd⟩ := exists_at hlt
        obtain ⟨A9p, c9p, hvp, -, -, hAp⟩ := SX.out
        simp only [Value.slice.injEq, true_and] at hvp
        obtain ⟨rfl, rfl⟩ := hvp
        obtain ⟨bp, op, rfl, -, hlp, hcellp⟩ := hAp (by omega)
        obtain ⟨esp, -, hcsp, hCp⟩ := hcellp k d hd
        obtain rfl := encT_C d esp hCp
        have p0 := (hbr.cell (p := ⟨bp, op + k * 3 + 0, none⟩) (by simp; omega)).trans (hcsp 0 (by omega))
        have p1 := (hbr.cell (p := ⟨bp, op + k * 3 + 1, none⟩) (by simp; omega)).trans (hcsp 1 (by omega))
        have p2 := (hbr.cell (p := ⟨bp, op + k * 3 + 2, none⟩) (by simp; omega)).trans (hcsp 2 (by omega))
        simp [encT] at p0 p1 p2
        have hwp : bp < wr.heap.size := Nat.lt_of_lt_of_le hlp hbr.size
        clear hcellp hcsp hAp
        obtain ⟨A9q, c9q, hvq, -, -, hAq⟩ := SU.out
        simp only [Value.slice.injEq, true_and] at hvq
        obtain ⟨rfl, rfl⟩ := hvq
        obtain ⟨bq, oq, rfl, -, hlq, hcellq⟩ := hAq (by omega)
        obtain ⟨esq, -, hcsq, hCq⟩ := hcellq k d hd
        obtain rfl := encT_C d esq hCq
        have q0 := (hbr.cell (p := ⟨bq, oq + k * 3 + 0, none⟩) (by simp; omega)).trans (hcsq 0 (by omega))
        have q1 := (hbr.cell (p := ⟨bq, oq + k * 3 + 1, none⟩) (by simp; omega)).trans (hcsq 1 (by omega))
        have q2 := (hbr.cell (p := ⟨bq, oq + k * 3 + 2, none⟩) (by simp; omega)).trans (hcsq 2 (by omega))
        simp [encT] at q0 q1 q2
        have hwq : bq < wr.heap.size := Nat.lt_of_lt_of_le hlq hbr.size
        clear hcellq hcsq hAq
        have hk0 : (0 : Int) ≤ k := by omega
        have hk1 : (k : Int) < Lx.length := by omega
        clear hd
        go_wp2_with fail
        refine wp_region_det 9 (by kernel_rfl) (by kernel_rfl) (by decide) ?_
        apply Exists.intro
        refine And.intro ?_ ?_
        · (intro W hW; (try simp only [Act.put, List.setIfInBounds_toArray, List.set_cons_zero, List.set_cons_succ]); first | (go_wp2_with fail; exact ⟨rfl, rfl, Below.refl _ _⟩))
        apply Exists.intro
        refine And.intro ?_ ?_
        · (intro W hW; (try simp only [Act.put, List.setIfInBounds_toArray, List.set_cons_zero, List.set_cons_succ]); first | (go_wp2_with fail; exact ⟨rfl, rfl, Below.refl _ _⟩))
        apply Exists.intro
        refine And.intro ?_ ?_
        · (intro W hW; (try simp only [Act.put, List.setIfInBounds_toArray, List.set_cons_zero, List.set_cons_succ]); first | (go_wp2_with fail; exact ⟨rfl, rfl, Below.refl _ _⟩))
        apply Exists.intro
        refine And.intro ?_ ?_
        · (intro W hW; (try simp only [Act.put, List.setIfInBounds_toArray, List.set_cons_zero, List.set_cons_succ]); first | (obtain ⟨hcW, hfW⟩ := bcell hW; have hsW := hW.size; (try simp at hsW); (try have hsW0 := lt_of_succ_le hsW); (try (have hsW1 := lt_pred hsW; (try (have hsW2 := lt_pred hsW1)))); go_wp2_with fail; exact ⟨rfl, rfl, Below.refl _ _⟩))
        apply Exists.intro
        refine And.intro ?_ ?_
        · (intro W hW; (try simp only [Act.put, List.setIfInBounds_toArray, List.set_cons_zero, List.set_cons_succ]); first | (go_wp2_with fail; exact ⟨rfl, rfl, Below.refl _ _⟩))
        apply Exists.intro
        refine And.intro ?_ ?_
        · (intro W hW; (try simp only [Act.put, List.setIfInBounds_toArray, List.set_cons_zero, List.set_cons_succ]); first | (go_wp2_with fail; exact ⟨rfl, rfl, Below.refl _ _⟩))
        apply Exists.intro
        refine And.intro ?_ ?_
        · (intro W hW; (try simp only [Act.put, List.setIfInBounds_toArray, List.set_cons_zero, List.set_cons_succ]); first | (go_wp2_with fail; exact ⟨rfl, rfl, Below.refl _ _⟩))
        apply Exists.intro
        refine And.intro ?_ ?_
        · (intro W hW; (try simp only [Act.put, List.setIfInBounds_toArray, List.set_cons_zero, List.set_cons_succ]); first | (obtain ⟨hcW, hfW⟩ := bcell hW; have hsW := hW.size; (try simp at hsW); (try have hsW0 := lt_of_succ_le hsW); (try (have hsW1 := lt_pred hsW; (try (have hsW2 := lt_pred hsW1)))); go_wp2_with fail; exact ⟨rfl, rfl, Below.refl _ _⟩))
        apply Exists.intro
        refine And.intro ?_ ?_
        · (intro W hW; (try simp only [Act.put, List.setIfInBounds_toArray, List.set_cons_zero, List.set_cons_succ]); first | (go_wp2_with fail; exact ⟨rfl, rfl, Below.refl _ _⟩))
        intro w1 hb
        (first | (have hcu2 := Cum.join hcu hb; (try clear hcu); (try clear hc); (try clear hfz); (try clear hsz); (try clear hs0); (try clear hs1); (try clear hs2); (try clear hs3); (try clear hs4); ) | have hcu2 := Cum.mk hb); have hcu := hcu2; clear hcu2; obtain ⟨hc, hfz⟩ := bcell hcu.h; have hsz := hcu.h.size; (try simp at hsz); (try have hs0 := lt_of_succ_le hsz); (try (have hs1 := lt_pred hsz; (try (have hs2 := lt_pred hs1; (try (have hs3 := lt_pred hs2; (try have hs4 := lt_pred hs3)))))))
        (try simp only [Act.put, List.setIfInBounds_toArray, List.set_cons_zero, List.set_cons_succ])
        (try simp only [List.drop_succ_cons, List.drop_nil])
        have Bn := ext_trans hbr hb
        go_wp2_with fail
        go_roundw
        case rel => exact ⟨k + 1, by omega, by go_num, Bn⟩
        case measure => simp [intOf]; omega
      · have hbr6 := hbr
        obtain ⟨w7, rfl⟩ : ∃ w7 : World, w7 = wr := ⟨_, rfl⟩
        clear hbr
        have hnk : ¬ (k : Int) < Lx.length := by omega
        go_wp2_with fail
        go_loopw [14] (fun i wr => ∃ k : Nat, k ≤ Ly.length ∧ i = .int .i64 k ∧ Below w6.heap.size w6 wr) (fun i _ => Ly.length - (intOf i).toNat)
        case atStart => exact ⟨0, Nat.zero_le _, rfl, hbr6⟩
        case round =>
          obtain ⟨k, hk, rfl, hbr⟩ := hrel
          by_cases hlt : k < Ly.length
          · obtain ⟨d, hd⟩ := exists_at hlt
            obtain ⟨A9p, c9p, hvp, -, -, hAp⟩ := SY.out
            simp only [Value.slice.injEq, true_and] at hvp
            obtain ⟨rfl, rfl⟩ := hvp
            obtain ⟨bp, op, rfl, -, hlp, hcellp⟩ := hAp (by omega)
            obtain ⟨esp, -, hcsp, hCp⟩ := hcellp k d hd
            obtain rfl := encTol_C d esp hCp
            have p0 := (hbr.cell (p := ⟨bp, op + k * 4 + 0, none⟩) (by simp; omega)).trans (hcsp 0 (by omega))
            have p1 := (hbr.cell (p := ⟨bp, op + k * 4 + 1, none⟩) (by simp; omega)).trans (hcsp 1 (by omega))
            have p2 := (hbr.cell (p := ⟨bp, op + k * 4 + 2, none⟩) (by simp; omega)).trans (hcsp 2 (by omega))
            have p3 := (hbr.cell (p := ⟨bp, op + k * 4 + 3, none⟩) (by simp; omega)).trans (hcsp 3 (by omega))
            simp [encTol] at p0 p1 p2 p3
            have hwp : bp < wr.heap.size := Nat.lt_of_lt_of_le hlp hbr.size
            clear hcellp hcsp hAp
            obtain ⟨A9q, c9q, hvq, -, -, hAq⟩ := SV.out
            simp only [Value.slice.injEq, true_and] at hvq
            obtain ⟨rfl, rfl⟩ := hvq
            obtain ⟨bq, oq, rfl, -, hlq, hcellq⟩ := hAq (by omega)
            obtain ⟨esq, -, hcsq, hCq⟩ := hcellq k d hd
            obtain rfl := encTol_C d esq hCq
            have q0 := (hbr.cell (p := ⟨bq, oq + k * 4 + 0, none⟩) (by simp; omega)).trans (hcsq 0 (by omega))
            have q1 := (hbr.cell (p := ⟨bq, oq + k * 4 + 1, none⟩) (by simp; omega)).trans (hcsq 1 (by omega))
            have q2 := (hbr.cell (p := ⟨bq, oq + k * 4 + 2, none⟩) (by simp; omega)).trans (hcsq 2 (by omega))
            have q3 := (hbr.cell (p := ⟨bq, oq + k * 4 + 3, none⟩) (by simp; omega)).trans (hcsq 3 (by omega))
            simp [encTol] at q0 q1 q2 q3
            have hwq : bq < wr.heap.size := Nat.lt_of_lt_of_le hlq hbr.size
            clear hcellq hcsq hAq
            have hk0 : (0 : Int) ≤ k := by omega
            have hk1 : (k : Int) < Ly.length := by omega
            clear hd
            go_wp2_with fail
            refine wp_region_det 9 (by kernel_rfl) (by kernel_rfl) (by decide) ?_
            apply Exists.intro
            refine And.intro ?_ ?_
            · (intro W hW; (try simp only [Act.put, List.setIfInBounds_toArray, List.set_cons_zero, List.set_cons_succ]); first | (go_wp2_with fail; exact ⟨rfl, rfl, Below.refl _ _⟩))
            apply Exists.intro
            refine And.intro ?_ ?_
            · (intro W hW; (try simp only [Act.put, List.setIfInBounds_toArray, List.set_cons_zero, List.set_cons_succ]); first | (go_wp2_with fail; exact ⟨rfl, rfl, Below.refl _ _⟩))
            apply Exists.intro
            refine And.intro ?_ ?_
            · (intro W hW; (try simp only [Act.put, List.setIfInBounds_toArray, List.set_cons_zero, List.set_cons_succ]); first | (go_wp2_with fail; exact ⟨rfl, rfl, Below.refl _ _⟩))
            apply Exists.intro
            refine And.intro ?_ ?_
            · (intro W hW; (try simp only [Act.put, List.setIfInBounds_toArray, List.set_cons_zero, List.set_cons_succ]); first | (obtain ⟨hcW, hfW⟩ := bcell hW; have hsW := hW.size; (try simp at hsW); (try have hsW0 := lt_of_succ_le hsW); (try (have hsW1 := lt_pred hsW; (try (have hsW2 := lt_pred hsW1)))); go_wp2_with fail; exact ⟨rfl, rfl, Below.refl _ _⟩))
            apply Exists.intro
            refine And.intro ?_ ?_
            · (intro W hW; (try simp only [Act.put, List.setIfInBounds_toArray, List.set_cons_zero, List.set_cons_succ]); first | (go_wp2_with fail; exact ⟨rfl, rfl, Below.refl _ _⟩))
            apply Exists.intro
            refine And.intro ?_ ?_
            · (intro W hW; (try simp only [Act.put, List.setIfInBounds_toArray, List.set_cons_zero, List.set_cons_succ]); first | (go_wp2_with fail; exact ⟨rfl, rfl, Below.refl _ _⟩))
            apply Exists.intro
            refine And.intro ?_ ?_
            · (intro W hW; (try simp only [Act.put, List.setIfInBounds_toArray, List.set_cons_zero, List.set_cons_succ]); first | (go_wp2_with fail; exact ⟨rfl, rfl, Below.refl _ _⟩))
            apply Exists.intro
            refine And.intro ?_ ?_
            · (intro W hW; (try simp only [Act.put, List.setIfInBounds_toArray, List.set_cons_zero, List.set_cons_succ]); first | (obtain ⟨hcW, hfW⟩ := bcell hW; have hsW := hW.size; (try simp at hsW); (try have hsW0 := lt_of_succ_le hsW); (try (have hsW1 := lt_pred hsW; (try (have hsW2 := lt_pred hsW1)))); go_wp2_with fail; exact ⟨rfl, rfl, Below.refl _ _⟩))
            apply Exists.intro
            refine And.intro ?_ ?_
            · (intro W hW; (try simp only [Act.put, List.setIfInBounds_toArray, List.set_cons_zero, List.set_cons_succ]); first | (go_wp2_with fail; exact ⟨rfl, rfl, Below.refl _ _⟩))
            intro w1 hb
            (first | (have hcu2 := Cum.join hcu hb; (try clear hcu); (try clear hc); (try clear hfz); (try clear hsz); (try clear hs0); (try clear hs1); (try clear hs2); (try clear hs3); (try clear hs4); ) | have hcu2 := Cum.mk hb); have hcu := hcu2; clear hcu2; obtain ⟨hc, hfz⟩ := bcell hcu.h; have hsz := hcu.h.size; (try simp at hsz); (try have hs0 := lt_of_succ_le hsz); (try (have hs1 := lt_pred hsz; (try (have hs2 := lt_pred hs1; (try (have hs3 := lt_pred hs2; (try have hs4 := lt_pred hs3)))))))
            (try simp only [Act.put, List.setIfInBounds_toArray, List.set_cons_zero, List.set_cons_succ])
            (try simp only [List.drop_succ_cons, List.drop_nil])
            have Bn := ext_trans hbr hb
            go_wp2_with fail
            go_roundw
            case rel => exact ⟨k + 1, by omega, by go_num, Bn⟩
            case measure => simp [intOf]; omega
          · have hnk2 : ¬ (k : Int) < Ly.length := by omega
            obtain ⟨tx, htx⟩ : ∃ t, t = taintsB Lx := ⟨_, rfl⟩
            obtain ⟨ty, hty⟩ : ∃ t, t = tolsOkB Ly := ⟨_, rfl⟩
            have hxx : Bx = true → tx = true := by rw [htx]; exact HTx.out
            have hyy : By = true → ty = true := by rw [hty]; exact HTy.out
            have Htx := Lib.hid htx
            have Hty := Lib.hid hty
            clear htx hty hnk hlt
            have Hxx := Lib.hid hxx
            have Hyy := Lib.hid hyy
            clear hxx hyy
            cases Bx
            all_goals cases By
            all_goals (try (obtain rfl := Hxx.out rfl))
            all_goals (try (obtain rfl := Hyy.out rfl))
            · skip
              go_wp2_with fail
              refine (c_impl_TaintsOk Lx _ _ _ (Sl_Taint.now SX.out hbr)).mono ?_
              rintro e x1 ⟨rfl, hb⟩
              have Bx1 := ext_trans hbr hb
              clear hb
              rw [← Htx.out]
              go_wp2_with fail
              refine (c_spec_TaintsOk Lx _ _ _ (Sl_Taint.now SX.out Bx1)).mono ?_
              rintro e x2 ⟨rfl, hb⟩
              have Bx2 := ext_trans Bx1 hb
              clear hb
              rw [← Htx.out]
              go_wp2_with fail
              refine (c_impl_TolerancesOk Ly _ _ _ (Sl_Tolerance.now SY.out Bx2)).mono ?_
              rintro e x3 ⟨rfl, hb⟩
              have Bx3 := ext_trans Bx2 hb
              clear hb
              rw [← Hty.out]
              go_wp2_with fail
              refine (c_spec_TolerancesOk Ly _ _ _ (Sl_Tolerance.now SY.out Bx3)).mono ?_
              rintro e x4 ⟨rfl, hb⟩
              have Bx4 := ext_trans Bx3 hb
              clear hb
              rw [← Hty.out]
              go_wp2_with fail
              refine (c_impl_TaintsOk [] _ _ 0 (sl_nilT 0 _)).mono ?_
              rintro e x5 ⟨rfl, hb⟩
              have Bx5 := ext_trans Bx4 hb
              clear hb
              have hnil : taintsB [] = true := rfl
              rw [hnil]
              go_wp2_with fail
              go_ret
              exact ⟨rfl, ext_trans Bw6 Bx5⟩
            · skip
              go_wp2_with fail
              refine (c_impl_TaintsOk Lx _ _ _ (Sl_Taint.now SX.out hbr)).mono ?_
              rintro e x1 ⟨rfl, hb⟩
              have Bx1 := ext_trans hbr hb
              clear hb
              rw [← Htx.out]
              go_wp2_with fail
              refine (c_spec_TaintsOk Lx _ _ _ (Sl_Taint.now SX.out Bx1)).mono ?_
              rintro e x2 ⟨rfl, hb⟩
              have Bx2 := ext_trans Bx1 hb
              clear hb
              rw [← Htx.out]
              go_wp2_with fail
              refine (c_impl_TolerancesOk Ly _ _ _ (Sl_Tolerance.now SY.out Bx2)).mono ?_
              rintro e x3 ⟨rfl, hb⟩
              have Bx3 := ext_trans Bx2 hb
              clear hb
              rw [← Hty.out]
              go_wp2_with fail
              refine (c_spec_TolerancesOk Ly _ _ _ (Sl_Tolerance.now SY.out Bx3)).mono ?_
              rintro e x4 ⟨rfl, hb⟩
              have Bx4 := ext_trans Bx3 hb
              clear hb
              rw [← Hty.out]
              go_wp2_with fail
              refine (c_impl_TolerancesOk Ly _ _ _ (Sl_Tolerance.now SY.out Bx4)).mono ?_
              rintro e x5 ⟨rfl, hb⟩
              have Bx5 := ext_trans Bx4 hb
              clear hb
              rw [← Hty.out]
              go_wp2_with fail
              refine (c_impl_TaintsOk [] _ _ 0 (sl_nilT 0 _)).mono ?_
              rintro e x6 ⟨rfl, hb⟩
              have Bx6 := ext_trans Bx5 hb
              clear hb
              have hnil : taintsB [] = true := rfl
              rw [hnil]
              go_wp2_with fail
              go_ret
              exact ⟨rfl, ext_trans Bw6 Bx6⟩
            · skip
              go_wp2_with fail
              refine (c_impl_TaintsOk Lx _ _ _ (Sl_Taint.now SX.out hbr)).mono ?_
              rintro e x1 ⟨rfl, hb⟩
              have Bx1 := ext_trans hbr hb
              clear hb
              rw [← Htx.out]
              go_wp2_with fail
              refine (c_spec_TaintsOk Lx _ _ _ (Sl_Taint.now SX.out Bx1)).mono ?_
              rintro e x2 ⟨rfl, hb⟩
              have Bx2 := ext_trans Bx1 hb
              clear hb
              rw [← Htx.out]
              go_wp2_with fail
              refine (c_impl_TolerancesOk Ly _ _ _ (Sl_Tolerance.now SY.out Bx2)).mono ?_
              rintro e x3 ⟨rfl, hb⟩
              have Bx3 := ext_trans Bx2 hb
              clear hb
              rw [← Hty.out]
              go_wp2_with fail
              refine (c_spec_TolerancesOk Ly _ _ _ (Sl_Tolerance.now SY.out Bx3)).mono ?_
              rintro e x4 ⟨rfl, hb⟩
              have Bx4 := ext_trans Bx3 hb
              clear hb
              rw [← Hty.out]
              go_wp2_with fail
              refine (c_impl_TaintsOk Lx _ _ _ (Sl_Taint.now SX.out Bx4)).mono ?_
              rintro e x5 ⟨rfl, hb⟩
              have Bx5 := ext_trans Bx4 hb
              clear hb
              rw [← Htx.out]
              go_wp2_with fail
              refine (c_impl_TaintsOk [] _ _ 0 (sl_nilT 0 _)).mono ?_
              rintro e x6 ⟨rfl, hb⟩
              have Bx6 := ext_trans Bx5 hb
              clear hb
              have hnil : taintsB [] = true := rfl
              rw [hnil]
              go_wp2_with fail
              go_ret
              exact ⟨rfl, ext_trans Bw6 Bx6⟩
            · skip
              go_wp2_with fail
              refine (c_impl_TaintsOk Lx _ _ _ (Sl_Taint.now SX.out hbr)).mono ?_
              rintro e x1 ⟨rfl, hb⟩
              have Bx1 := ext_trans hbr hb
              clear hb
              rw [← Htx.out]
              go_wp2_with fail
              refine (c_spec_TaintsOk Lx _ _ _ (Sl_Taint.now SX.out Bx1)).mono ?_
              rintro e x2 ⟨rfl, hb⟩
              have Bx2 := ext_trans Bx1 hb
              clear hb
              rw [← Htx.out]
              go_wp2_with fail
              refine (c_impl_TolerancesOk Ly _ _ _ (Sl_Tolerance.now SY.out Bx2)).mono ?_
              rintro e x3 ⟨rfl, hb⟩
              have Bx3 := ext_trans Bx2 hb
              clear hb
              rw [← Hty.out]
              go_wp2_with fail
              refine (c_spec_TolerancesOk Ly _ _ _ (Sl_Tolerance.now SY.out Bx3)).mono ?_
              rintro e x4 ⟨rfl, hb⟩
              have Bx4 := ext_trans Bx3 hb
              clear hb
              rw [← Hty.out]
              go_wp2_with fail
              refine (c_impl_TaintsOk Lx _ _ _ (Sl_Taint.now SX.out Bx4)).mono ?_
              rintro e x5 ⟨rfl, hb⟩
              have Bx5 := ext_trans Bx4 hb
              clear hb
              rw [← Htx.out]
              go_wp2_with fail
              refine (c_impl_TolerancesOk Ly _ _ _ (Sl_Tolerance.now SY.out Bx5)).mono ?_
              rintro e x6 ⟨rfl, hb⟩
              have Bx6 := ext_trans Bx5 hb
              clear hb
              rw [← Hty.out]
              go_wp2_with fail
              refine (c_impl_TaintsOk [] _ _ 0 (sl_nilT 0 _)).mono ?_
              rintro e x7 ⟨rfl, hb⟩
              have Bx7 := ext_trans Bx6 hb
              clear hb
              have hnil : taintsB [] = true := rfl
              rw [hnil]
              go_wp2_with fail
              go_ret
              exact ⟨rfl, ext_trans Bw6 Bx7⟩
  · go_enter Try.func5, Try.ntmps5
    go_wp2_with fail
    refine (c_laws_big_yes d0 A0 c0 _ hq).mono ?_
    rintro e w0 ⟨rfl, rfl⟩
    go_wp2_with fail
    go_ret
    exact ⟨rfl, Below.refl _ _⟩
end Go.Proofs.Ytmhlnbihppojmaa
