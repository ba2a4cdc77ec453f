/- Written by wip/tools/pack.py: the texts that FnExactPodNormal needs, without what it does not need. No conditions. -/
import Derived.Test.YtmhlnbihppojmaaGreatKFnExactPodNormal22
namespace Go.Proofs.YtmhlnbihppojmaaGreat
open Go.RowKit
theorem sum_values' : ∀ (l : List Need) (d : Need), d ∈ l → d.values.length ≤ szL nNeed l
  | [], d, h => by simp at h
  | x :: l, d, h => by
    have hx : szL nNeed (x :: l) = nNeed x + szL nNeed l := rfl
    rcases List.mem_cons.1 h with rfl | h
    · have : d.values.length ≤ nNeed d := by
        unfold nNeed
        have := nL_def ByteArray.size d.values
        omega
      omega
    · have := sum_values' l d h
      omega
theorem sortN_bound' (l : List Need) (n : Nat) (h : ∀ d ∈ l, d.values.length ≤ n) : (sortNB l).1.length ≤ l.length ∧ ∀ d ∈ (sortNB l).1, d.values.length ≤ n := by
  unfold sortNB
  split
  · exact ⟨Nat.le_refl _, h⟩
  · split
    · exact ⟨Nat.le_refl _, h⟩
    · split
      · refine ⟨ordN_len l, fun d hd => ?_⟩
        have h1 := (ordB_all tot_N (l.map normN)).2 d |>.1 hd
        obtain ⟨d0, h2, rfl⟩ := List.mem_map.1 h1
        have h3 := ordB_len lessS eqS d0.values
        have h4 := h d0 h2
        show (valsB d0.values).length ≤ n
        unfold valsB
        omega
      · exact ⟨Nat.le_refl _, h⟩
theorem sizes_Pod (d : Pod) (h : nPod d ≤ 1048576) : d.labels.length ≤ 1048576 ∧ d.needs.length ≤ 1048576 ∧ d.tolerances.length ≤ 1048576 ∧ ∀ x ∈ d.needs, x.values.length ≤ 1048576 := by
  unfold nPod at h
  have h_labels := nL_def nLabel d.labels
  have h_needs := nL_def nNeed d.needs
  have h_tolerances := nL_def nTolerance d.tolerances
  exact ⟨by omega, by omega, by omega, fun x hx => by have := sum_values' d.needs x hx; omega⟩
theorem cnt_small_Pod (d : Pod) (h1 : d.labels.length ≤ 1048576) (h2 : d.needs.length ≤ 1048576) (h3 : d.tolerances.length ≤ 1048576) (hv : ∀ x ∈ d.needs, x.values.length ≤ 1048576) : cntPod d ≤ 1099530502144 := by
  unfold cntPod
  have h5 := cntN_bound 1048576 d.needs hv
  have h6 : d.needs.length * (2 + 1048576) ≤ 1048576 * (2 + 1048576) := Nat.mul_le_mul_right _ h2
  omega
theorem podNB_small (d : Pod) (h1 : d.labels.length ≤ 1048576) (h2 : d.needs.length ≤ 1048576) (h3 : d.tolerances.length ≤ 1048576) (hv : ∀ x ∈ d.needs, x.values.length ≤ 1048576) (hC : ∀ x ∈ d.tolerances, C_Tolerance x (encTol x)) : cntPod (podNB d).1 ≤ 1099530502144 := by
  unfold podNB
  split
  · have hs := sortN_bound' d.needs 1048576 hv
    refine cnt_small_Pod _ ?_ ?_ ?_ ?_
    · show (sortLB d.labels).1.length ≤ 1048576
      exact Nat.le_trans (sortLB_len d.labels) h1
    · show (sortNB d.needs).1.length ≤ 1048576
      exact Nat.le_trans hs.1 h2
    · show (sortTolB d.tolerances).1.length ≤ 1048576
      exact Nat.le_trans (sortTolB_all hC).1 h3
    · exact hs.2
  · exact cnt_small_Pod d h1 h2 h3 hv
set_option maxHeartbeats 8000000 in
set_option maxRecDepth 20000 in
theorem w_FnExactPodNormal (d0 : Pod) (v0 : Value) (w : World) (h0 : R_Pod w d0 v0) :
    Calls Tryz.prog 4 #[v0] w fun e w' => e = .returned (.bool true) ∧ Below w.heap.size w w' := by
  obtain ⟨cs, rfl, hC⟩ := h0
  have hC1 := hC
  obtain ⟨A1, a1, A5, a5, A6, a6, rfl⟩ := C_Pod.open hC1
  by_cases hq : ((nPod d0 : Nat) : Int) ≤ 1048576
  · have hz := szI_pos hq
    have hz2 : ¬ szI 1048576 (nPod d0) < 0 := by omega
    have hnN : nPod d0 ≤ 1048576 := by omega
    obtain ⟨hn0, hn1, hn2, hv⟩ := sizes_Pod d0 hnN
    have HV := Lib.hid hv
    clear hv
    obtain ⟨D, hD⟩ : ∃ D, D = (podNB d0).1 := ⟨_, rfl⟩
    obtain ⟨B, hB⟩ : ∃ B, B = (podNB d0).2 := ⟨_, rfl⟩
    have hcD : cntPod D ≤ 1099530502144 := by
      rw [hD]
      obtain ⟨v1, v5, v6, -, b0, b1, b2, b3, b4, b5, b6⟩ := hC1
      exact podNB_small d0 hn0 hn1 hn2 HV.out (Tolerance_of_ord b6)
    have hc0 : cntPod d0 ≤ 1099530502144 := cnt_small_Pod d0 hn0 hn1 hn2 HV.out
    have HL := Lib.hid hD
    have HB := Lib.hid hB
    have HCD := Lib.hid hcD
    have HC0 := Lib.hid hc0
    have HCN := Lib.hid hC
    clear hz hD hB hcD hc0 hC hC1
    go_enter Tryz.func4, Tryz.ntmps4
    have Bw : Below w.heap.size w w := Below.refl _ _
    go_wp2_with fail
    refine (c_laws_szPod d0 [.string d0.name, .slice A1 d0.labels.length a1, .int .i64 d0.cpu, .int .i64 d0.mem, .int .i64 d0.rank, .slice A5 d0.needs.length a5, .slice A6 d0.tolerances.length a6] _ _ _ (C_Pod.now HCN.out bel) (by omega) (by omega)).mono ?_
    rintro e w1 ⟨rfl, hb⟩
    have z1 := hb.size
    (try simp at z1)
    have SA : w1.heap[w.heap.size]? = some (.cells #[.string d0.name, .slice A1 d0.labels.length a1, .int .i64 d0.cpu, .int .i64 d0.mem, .int .i64 d0.rank, .slice A5 d0.needs.length a5, .slice A6 d0.tolerances.length a6] 39 (0, 0)) := (hb.block (w.heap.size) (by first | omega | (simp; try omega))).trans (heap_at (by simp))
    have Cw : Below w.heap.size w w1 := (Bw.alloc (by first | omega | (simp; try omega)) _).trans (hb.mono (by first | omega | (simp; try omega)))
    obtain ⟨xA0, xA1, xA2, xA3, xA4, xA5, xA6, xAf⟩ := row7x SA
    have lA := row_lt SA
    have mA := Nat.lt_succ_of_lt lA
    have nA := Nat.lt_succ_of_lt mA
    have RA := Lib.hid SA
    clear SA
    have Bw := Cw
    clear Cw
    clear hb
    go_wp2_with fail
    refine (c_laws_toPod d0 [.string d0.name, .slice A1 d0.labels.length a1, .int .i64 d0.cpu, .int .i64 d0.mem, .int .i64 d0.rank, .slice A5 d0.needs.length a5, .slice A6 d0.tolerances.length a6] _ _ (C_Pod.now HCN.out Bw) hnN).mono ?_
    rintro e w2 ⟨cs2, rfl, hr2, hb⟩
    obtain ⟨T1, t1, T5, t5, T6, t6, rfl⟩ := C_Pod.open hr2
    have z2 := hb.size
    (try simp at z2)
    have SA : w2.heap[w.heap.size]? = some (.cells #[.string d0.name, .slice A1 d0.labels.length a1, .int .i64 d0.cpu, .int .i64 d0.mem, .int .i64 d0.rank, .slice A5 d0.needs.length a5, .slice A6 d0.tolerances.length a6] 39 (0, 0)) := (hb.block (w.heap.size) (by first | omega | (simp; try omega))).trans RA.out
    have Cw : Below w.heap.size w w2 := Bw.trans (hb.mono (by first | omega | (simp; try omega)))
    clear RA Bw xA0 xA1 xA2 xA3 xA4 xA5 xA6 xAf lA mA nA
    obtain ⟨xA0, xA1, xA2, xA3, xA4, xA5, xA6, xAf⟩ := row7x SA
    have lA := row_lt SA
    have mA := Nat.lt_succ_of_lt lA
    have nA := Nat.lt_succ_of_lt mA
    have RA := Lib.hid SA
    clear SA
    have Bw := Cw
    clear Cw
    clear hb
    go_wp2_with fail
    refine (c_spec_PodNormal d0 _ _ _ hr2 hn0 hn1 hn2 HV.out).mono ?_
    rintro e w3 ⟨cs3, rfl, R3, hb⟩
    rw [← HB.out]
    rw [← HL.out] at R3
    obtain ⟨D1, d1, D5, d5, D6, d6, rfl⟩ := C_Pod.open R3
    have z3 := hb.size
    (try simp at z3)
    have SA : w3.heap[w.heap.size]? = some (.cells #[.string d0.name, .slice A1 d0.labels.length a1, .int .i64 d0.cpu, .int .i64 d0.mem, .int .i64 d0.rank, .slice A5 d0.needs.length a5, .slice A6 d0.tolerances.length a6] 39 (0, 0)) := (hb.block (w.heap.size) (by first | omega | (simp; try omega))).trans RA.out
    have Cw : Below w.heap.size w w3 := Bw.trans (hb.mono (by first | omega | (simp; try omega)))
    have CW := Lib.hid R3
    clear R3
    clear RA Bw xA0 xA1 xA2 xA3 xA4 xA5 xA6 xAf lA mA nA
    obtain ⟨xA0, xA1, xA2, xA3, xA4, xA5, xA6, xAf⟩ := row7x SA
    have lA := row_lt SA
    have mA := Nat.lt_succ_of_lt lA
    have nA := Nat.lt_succ_of_lt mA
    have RA := Lib.hid SA
    clear SA
    have Bw := Cw
    clear Cw
    clear hb
    have BW : Below w3.heap.size w3 w3 := Below.refl _ _
    go_wp2_with fail
    refine (c_laws_toPodO d0 [.string d0.name, .slice A1 d0.labels.length a1, .int .i64 d0.cpu, .int .i64 d0.mem, .int .i64 d0.rank, .slice A5 d0.needs.length a5, .slice A6 d0.tolerances.length a6] _ _ (C_Pod.now HCN.out (Bw.alloc (by first | omega | (simp; try omega)) _)) hnN).mono ?_
    rintro e w4 ⟨cs4, rfl, O4, hb⟩
    obtain ⟨E1, e1, E5, e5, E6, e6, rfl⟩ := O4.open
    have z4 := hb.size
    (try simp at z4)
    have SA : w4.heap[w.heap.size]? = some (.cells #[.string d0.name, .slice A1 d0.labels.length a1, .int .i64 d0.cpu, .int .i64 d0.mem, .int .i64 d0.rank, .slice A5 d0.needs.length a5, .slice A6 d0.tolerances.length a6] 39 (0, 0)) := (hb.block (w.heap.size) (by first | omega | (simp; try omega))).trans ((Below.heap_alloc _ _ _ (by first | omega | (simp; try omega))).trans RA.out)
    have SM : w4.heap[w3.heap.size]? = some (.cells #[.string D.name, .slice D1 D.labels.length d1, .int .i64 D.cpu, .int .i64 D.mem, .int .i64 D.rank, .slice D5 D.needs.length d5, .slice D6 D.tolerances.length d6] 44 (0, 0)) := (hb.block (w3.heap.size) (by first | omega | (simp; try omega))).trans (heap_at (by simp))
    have Cw : Below w.heap.size w w4 := (Bw.alloc (by first | omega | (simp; try omega)) _).trans (hb.mono (by first | omega | (simp; try omega)))
    have CW : Below w3.heap.size w3 w4 := (BW.alloc (by first | omega | (simp; try omega)) _).trans (hb.mono (by first | omega | (simp; try omega)))
    have OX := O4.carry (S' := fun b => w3.heap.size + 1 ≤ b ∧ b < w4.heap.size) (fun _ _ => rfl) (fun b hb => by simpa using hb)
    have CX := OX.toC (fun b hb => hb)
    clear O4
    clear RA Bw BW xA0 xA1 xA2 xA3 xA4 xA5 xA6 xAf lA mA nA
    obtain ⟨xA0, xA1, xA2, xA3, xA4, xA5, xA6, xAf⟩ := row7x SA
    have lA := row_lt SA
    have mA := Nat.lt_succ_of_lt lA
    have nA := Nat.lt_succ_of_lt mA
    have RA := Lib.hid SA
    clear SA
    obtain ⟨xM0, xM1, xM2, xM3, xM4, xM5, xM6, xMf⟩ := row7x SM
    have lM := row_lt SM
    have mM := Nat.lt_succ_of_lt lM
    have nM := Nat.lt_succ_of_lt mM
    have RM := Lib.hid SM
    clear SM
    have Bw := Cw
    clear Cw
    have BW := CW
    clear CW
    clear hb
    have BX : Below w4.heap.size w4 w4 := Below.refl _ _
    go_wp2_with fail
    refine (c_impl_PodNormal d0 _ _ _ (C_Pod.now CX (BX.alloc (Nat.le_refl _) _)) hn0 hn1 hn2 HV.out).mono ?_
    rintro e w5 ⟨cs5, rfl, R5, hb⟩
    rw [← HB.out]
    rw [← HL.out] at R5
    obtain ⟨G1, g1, G5, g5, G6, g6, rfl⟩ := R5.open
    have z5 := hb.size
    (try simp at z5)
    have SA : w5.heap[w.heap.size]? = some (.cells #[.string d0.name, .slice A1 d0.labels.length a1, .int .i64 d0.cpu, .int .i64 d0.mem, .int .i64 d0.rank, .slice A5 d0.needs.length a5, .slice A6 d0.tolerances.length a6] 39 (0, 0)) := (hb.block (w.heap.size) (by first | omega | (simp; try omega))).trans ((Below.heap_alloc _ _ _ (by first | omega | (simp; try omega))).trans RA.out)
    have SM : w5.heap[w3.heap.size]? = some (.cells #[.string D.name, .slice D1 D.labels.length d1, .int .i64 D.cpu, .int .i64 D.mem, .int .i64 D.rank, .slice D5 D.needs.length d5, .slice D6 D.tolerances.length d6] 44 (0, 0)) := (hb.block (w3.heap.size) (by first | omega | (simp; try omega))).trans ((Below.heap_alloc _ _ _ (by first | omega | (simp; try omega))).trans RM.out)
    have SX : w5.heap[w4.heap.size]? = some (.cells #[.string d0.name, .slice E1 d0.labels.length e1, .int .i64 d0.cpu, .int .i64 d0.mem, .int .i64 d0.rank, .slice E5 d0.needs.length e5, .slice E6 d0.tolerances.length e6] 44 (0, 0)) := (hb.block (w4.heap.size) (by first | omega | (simp; try omega))).trans (heap_at (by simp))
    have Cw : Below w.heap.size w w5 := (Bw.alloc (by first | omega | (simp; try omega)) _).trans (hb.mono (by first | omega | (simp; try omega)))
    have CW : Below w3.heap.size w3 w5 := (BW.alloc (by first | omega | (simp; try omega)) _).trans (hb.mono (by first | omega | (simp; try omega)))
    have CX : Below w4.heap.size w4 w5 := (BX.alloc (by first | omega | (simp; try omega)) _).trans (hb.mono (by first | omega | (simp; try omega)))
    have TG := R5.carry (S' := fun b => w4.heap.size + 1 ≤ b ∧ b < w5.heap.size) (fun _ _ => rfl) (fun b hb => by simpa using hb)
    have CG := TG.toC (fun b hb => hb)
    clear R5
    clear RA RM Bw BW BX xA0 xA1 xA2 xA3 xA4 xA5 xA6 xM0 xM1 xM2 xM3 xM4 xM5 xM6 xAf xMf lA mA nA lM mM nM
    obtain ⟨xA0, xA1, xA2, xA3, xA4, xA5, xA6, xAf⟩ := row7x SA
    have lA := row_lt SA
    have mA := Nat.lt_succ_of_lt lA
    have nA := Nat.lt_succ_of_lt mA
    have RA := Lib.hid SA
    clear SA
    obtain ⟨xM0, xM1, xM2, xM3, xM4, xM5, xM6, xMf⟩ := row7x SM
    have lM := row_lt SM
    have mM := Nat.lt_succ_of_lt lM
    have nM := Nat.lt_succ_of_lt mM
    have RM := Lib.hid SM
    clear SM
    obtain ⟨xX0, xX1, xX2, xX3, xX4, xX5, xX6, xXf⟩ := row7x SX
    have lX := row_lt SX
    have mX := Nat.lt_succ_of_lt lX
    have nX := Nat.lt_succ_of_lt mX
    have RX := Lib.hid SX
    clear SX
    have Bw := Cw
    clear Cw
    have BW := CW
    clear CW
    have BX := CX
    clear CX
    clear hb
    have BG : Below w5.heap.size w5 w5 := Below.refl _ _
    go_wp2_with fail
    refine (c_laws_eqPod D _ _ _ _ _ (C_Pod.now CG (BG.alloc (by first | omega | (simp; try omega)) _)) (C_Pod.now CW.out (BW.alloc (by first | omega | (simp; try omega)) _))).mono ?_
    rintro e w6 ⟨rfl, hb⟩
    have z6 := hb.size
    (try simp at z6)
    have SA : w6.heap[w.heap.size]? = some (.cells #[.string d0.name, .slice A1 d0.labels.length a1, .int .i64 d0.cpu, .int .i64 d0.mem, .int .i64 d0.rank, .slice A5 d0.needs.length a5, .slice A6 d0.tolerances.length a6] 39 (0, 0)) := (hb.block (w.heap.size) (by first | omega | (simp; try omega))).trans ((Below.heap_alloc _ _ _ (by first | omega | (simp; try omega))).trans RA.out)
    have SM : w6.heap[w3.heap.size]? = some (.cells #[.string D.name, .slice D1 D.labels.length d1, .int .i64 D.cpu, .int .i64 D.mem, .int .i64 D.rank, .slice D5 D.needs.length d5, .slice D6 D.tolerances.length d6] 44 (0, 0)) := (hb.block (w3.heap.size) (by first | omega | (simp; try omega))).trans ((Below.heap_alloc _ _ _ (by first | omega | (simp; try omega))).trans RM.out)
    have SX : w6.heap[w4.heap.size]? = some (.cells #[.string d0.name, .slice E1 d0.labels.length e1, .int .i64 d0.cpu, .int .i64 d0.mem, .int .i64 d0.rank, .slice E5 d0.needs.length e5, .slice E6 d0.tolerances.length e6] 44 (0, 0)) := (hb.block (w4.heap.size) (by first | omega | (simp; try omega))).trans ((Below.heap_alloc _ _ _ (by first | omega | (simp; try omega))).trans RX.out)
    have SG : w6.heap[w5.heap.size]? = some (.cells #[.string D.name, .slice G1 D.labels.length g1, .int .i64 D.cpu, .int .i64 D.mem, .int .i64 D.rank, .slice G5 D.needs.length g5, .slice G6 D.tolerances.length g6] 44 (0, 0)) := (hb.block (w5.heap.size) (by first | omega | (simp; try omega))).trans (heap_at (by simp))
    have Cw : Below w.heap.size w w6 := (Bw.alloc (by first | omega | (simp; try omega)) _).trans (hb.mono (by first | omega | (simp; try omega)))
    have CW : Below w3.heap.size w3 w6 := (BW.alloc (by first | omega | (simp; try omega)) _).trans (hb.mono (by first | omega | (simp; try omega)))
    have CX : Below w4.heap.size w4 w6 := (BX.alloc (by first | omega | (simp; try omega)) _).trans (hb.mono (by first | omega | (simp; try omega)))
    have CG : Below w5.heap.size w5 w6 := (BG.alloc (by first | omega | (simp; try omega)) _).trans (hb.mono (by first | omega | (simp; try omega)))
    clear RA RM RX Bw BW BX BG xA0 xA1 xA2 xA3 xA4 xA5 xA6 xM0 xM1 xM2 xM3 xM4 xM5 xM6 xX0 xX1 xX2 xX3 xX4 xX5 xX6 xAf xMf xXf lA mA nA lM mM nM lX mX nX
    obtain ⟨xA0, xA1, xA2, xA3, xA4, xA5, xA6, xAf⟩ := row7x SA
    have lA := row_lt SA
    have mA := Nat.lt_succ_of_lt lA
    have nA := Nat.lt_succ_of_lt mA
    have RA := Lib.hid SA
    clear SA
    obtain ⟨xM0, xM1, xM2, xM3, xM4, xM5, xM6, xMf⟩ := row7x SM
    have lM := row_lt SM
    have mM := Nat.lt_succ_of_lt lM
    have nM := Nat.lt_succ_of_lt mM
    have RM := Lib.hid SM
    clear SM
    obtain ⟨xX0, xX1, xX2, xX3, xX4, xX5, xX6, xXf⟩ := row7x SX
    have lX := row_lt SX
    have mX := Nat.lt_succ_of_lt lX
    have nX := Nat.lt_succ_of_lt mX
    have RX := Lib.hid SX
    clear SX
    obtain ⟨xG0, xG1, xG2, xG3, xG4, xG5, xG6, xGf⟩ := row7x SG
    have lG := row_lt SG
    have mG := Nat.lt_succ_of_lt lG
    have nG := Nat.lt_succ_of_lt mG
    have RG := Lib.hid SG
    clear SG
    have Bw := Cw
    clear Cw
    have BW := CW
    clear CW
    have BX := CX
    clear CX
    have BG := CG
    clear CG
    clear hb
    go_wp2_with fail
    have CX7 := C_Pod.now CX BX
    go_region_held3 (fun w' => Below (w6).heap.size (w6) w' ∧ (∀ xb xo, xb < (w6).heap.size → w'.cell? ⟨xb, xo, none⟩ = (w6).cell? ⟨xb, xo, none⟩)) (first | exact keep_drew _ | exact keep_ext (by assumption) (by assumption) | exact keep_same (by assumption) | exact keep_alloc (by assumption) _) (first | (go_at_call 17; refine (c_laws_toPod d0 [.string d0.name, .slice A1 d0.labels.length a1, .int .i64 d0.cpu, .int .i64 d0.mem, .int .i64 d0.rank, .slice A5 d0.needs.length a5, .slice A6 d0.tolerances.length a6] _ _ (C_Pod.now HCN.out (ext_trans Bw (by first | (with_reducible exact Below.refl _ _) | exact (keep_same (by assumption)).1))) hnN).mono ?_; rintro e w8 ⟨cs8, rfl, hr8, hb8⟩; obtain ⟨y1, q1, y5, q5, y6, q6, rfl⟩ := C_Pod.open hr8) | (go_at_call 19; refine (c_laws_eqPod d0 [.string d0.name, .slice E1 d0.labels.length e1, .int .i64 d0.cpu, .int .i64 d0.mem, .int .i64 d0.rank, .slice E5 d0.needs.length e5, .slice E6 d0.tolerances.length e6] _ _ _ _ (C_Pod.now CX7 (by first | (with_reducible exact Below.refl _ _) | exact (keep_same (by assumption)).1)) (C_Pod.now hr8 (by first | exact Below.refl _ _ | exact (Below.refl _ _).drew))).mono ?_; rintro e w8 ⟨rfl, hb8⟩))
    have hb := held_step (by assumption)
    have z7 := hb.size
    (try simp at z7)
    have SA : w8.heap[w.heap.size]? = some (.cells #[.string d0.name, .slice A1 d0.labels.length a1, .int .i64 d0.cpu, .int .i64 d0.mem, .int .i64 d0.rank, .slice A5 d0.needs.length a5, .slice A6 d0.tolerances.length a6] 39 (0, 0)) := (hb.block (w.heap.size) (by first | omega | (simp; try omega))).trans RA.out
    have SM : w8.heap[w3.heap.size]? = some (.cells #[.string D.name, .slice D1 D.labels.length d1, .int .i64 D.cpu, .int .i64 D.mem, .int .i64 D.rank, .slice D5 D.needs.length d5, .slice D6 D.tolerances.length d6] 44 (0, 0)) := (hb.block (w3.heap.size) (by first | omega | (simp; try omega))).trans RM.out
    have SX : w8.heap[w4.heap.size]? = some (.cells #[.string d0.name, .slice E1 d0.labels.length e1, .int .i64 d0.cpu, .int .i64 d0.mem, .int .i64 d0.rank, .slice E5 d0.needs.length e5, .slice E6 d0.tolerances.length e6] 44 (0, 0)) := (hb.block (w4.heap.size) (by first | omega | (simp; try omega))).trans RX.out
    have SG : w8.heap[w5.heap.size]? = some (.cells #[.string D.name, .slice G1 D.labels.length g1, .int .i64 D.cpu, .int .i64 D.mem, .int .i64 D.rank, .slice G5 D.needs.length g5, .slice G6 D.tolerances.length g6] 44 (0, 0)) := (hb.block (w5.heap.size) (by first | omega | (simp; try omega))).trans RG.out
    have Cw : Below w.heap.size w w8 := Bw.trans (hb.mono (by first | omega | (simp; try omega)))
    have CW : Below w3.heap.size w3 w8 := BW.trans (hb.mono (by first | omega | (simp; try omega)))
    have CX : Below w4.heap.size w4 w8 := BX.trans (hb.mono (by first | omega | (simp; try omega)))
    have CG : Below w5.heap.size w5 w8 := BG.trans (hb.mono (by first | omega | (simp; try omega)))
    clear RA RM RX RG Bw BW BX BG xA0 xA1 xA2 xA3 xA4 xA5 xA6 xM0 xM1 xM2 xM3 xM4 xM5 xM6 xX0 xX1 xX2 xX3 xX4 xX5 xX6 xG0 xG1 xG2 xG3 xG4 xG5 xG6 xAf xMf xXf xGf lA mA nA lM mM nM lX mX nX lG mG nG
    obtain ⟨xA0, xA1, xA2, xA3, xA4, xA5, xA6, xAf⟩ := row7x SA
    have lA := row_lt SA
    have mA := Nat.lt_succ_of_lt lA
    have nA := Nat.lt_succ_of_lt mA
    have RA := Lib.hid SA
    clear SA
    obtain ⟨xM0, xM1, xM2, xM3, xM4, xM5, xM6, xMf⟩ := row7x SM
    have lM := row_lt SM
    have mM := Nat.lt_succ_of_lt lM
    have nM := Nat.lt_succ_of_lt mM
    have RM := Lib.hid SM
    clear SM
    obtain ⟨xX0, xX1, xX2, xX3, xX4, xX5, xX6, xXf⟩ := row7x SX
    have lX := row_lt SX
    have mX := Nat.lt_succ_of_lt lX
    have nX := Nat.lt_succ_of_lt mX
    have RX := Lib.hid SX
    clear SX
    obtain ⟨xG0, xG1, xG2, xG3, xG4, xG5, xG6, xGf⟩ := row7x SG
    have lG := row_lt SG
    have mG := Nat.lt_succ_of_lt lG
    have nG := Nat.lt_succ_of_lt mG
    have RG := Lib.hid SG
    clear SG
    have Bw := Cw
    clear Cw
    have BW := CW
    clear CW
    have BX := CX
    clear CX
    have BG := CG
    clear CG
    clear hb
    go_wp2_with fail
    refine (c_laws_markPod d0 _ _ _ _ (OX.carry (w' := w8) (fun b hb => BX.block b hb.2) (fun _ h => h)) (fun b hb => by omega) (by decide) (by have := HC0.out; omega)).mono ?_
    rintro e w9 ⟨l9, rfl, -, -, -, hb⟩
    obtain ⟨n4, hn4⟩ : ∃ n, n = cntPod d0 := ⟨_, rfl⟩
    have hn4b : (n4 : Int) ≤ 1099530502144 := by have := HC0.out; omega
    rw [← hn4]
    clear hn4
    have z9 := hb.size
    have SA : w9.heap[w.heap.size]? = some (.cells #[.string d0.name, .slice A1 d0.labels.length a1, .int .i64 d0.cpu, .int .i64 d0.mem, .int .i64 d0.rank, .slice A5 d0.needs.length a5, .slice A6 d0.tolerances.length a6] 39 (0, 0)) := (hb.block (w.heap.size) (by omega) (by omega)).trans RA.out
    have SM : w9.heap[w3.heap.size]? = some (.cells #[.string D.name, .slice D1 D.labels.length d1, .int .i64 D.cpu, .int .i64 D.mem, .int .i64 D.rank, .slice D5 D.needs.length d5, .slice D6 D.tolerances.length d6] 44 (0, 0)) := (hb.block (w3.heap.size) (by omega) (by omega)).trans RM.out
    have SX : w9.heap[w4.heap.size]? = some (.cells #[.string d0.name, .slice E1 d0.labels.length e1, .int .i64 d0.cpu, .int .i64 d0.mem, .int .i64 d0.rank, .slice E5 d0.needs.length e5, .slice E6 d0.tolerances.length e6] 44 (0, 0)) := (hb.block (w4.heap.size) (by omega) (by omega)).trans RX.out
    have SG : w9.heap[w5.heap.size]? = some (.cells #[.string D.name, .slice G1 D.labels.length g1, .int .i64 D.cpu, .int .i64 D.mem, .int .i64 D.rank, .slice G5 D.needs.length g5, .slice G6 D.tolerances.length g6] 44 (0, 0)) := (hb.block (w5.heap.size) (by omega) (by omega)).trans RG.out
    have Cw : Below w.heap.size w w9 := Bw.trans (hb.below (by omega) (fun i hi => by omega))
    have CW : Below w3.heap.size w3 w9 := BW.trans (hb.below (by omega) (fun i hi => by omega))
    have TG9 := TG.carry (w' := w9) (fun b hq => (hb.block b (by omega) (by omega)).trans (BG.block b hq.2)) (fun _ h => h)
    have CG9 := TG9.toC (lo := w4.heap.size + 1) (hi := w9.heap.size) (fun b hq => ⟨hq.1, by omega⟩)
    clear TG CG CX OX CX7
    clear RA RM RX RG Bw BW xA0 xA1 xA2 xA3 xA4 xA5 xA6 xM0 xM1 xM2 xM3 xM4 xM5 xM6 xX0 xX1 xX2 xX3 xX4 xX5 xX6 xG0 xG1 xG2 xG3 xG4 xG5 xG6 xAf xMf xXf xGf lA mA nA lM mM nM lX mX nX lG mG nG
    obtain ⟨xA0, xA1, xA2, xA3, xA4, xA5, xA6, xAf⟩ := row7x SA
    have lA := row_lt SA
    have mA := Nat.lt_succ_of_lt lA
    have nA := Nat.lt_succ_of_lt mA
    have RA := Lib.hid SA
    clear SA
    obtain ⟨xM0, xM1, xM2, xM3, xM4, xM5, xM6, xMf⟩ := row7x SM
    have lM := row_lt SM
    have mM := Nat.lt_succ_of_lt lM
    have nM := Nat.lt_succ_of_lt mM
    have RM := Lib.hid SM
    clear SM
    obtain ⟨xX0, xX1, xX2, xX3, xX4, xX5, xX6, xXf⟩ := row7x SX
    have lX := row_lt SX
    have mX := Nat.lt_succ_of_lt lX
    have nX := Nat.lt_succ_of_lt mX
    have RX := Lib.hid SX
    clear SX
    obtain ⟨xG0, xG1, xG2, xG3, xG4, xG5, xG6, xGf⟩ := row7x SG
    have lG := row_lt SG
    have mG := Nat.lt_succ_of_lt lG
    have nG := Nat.lt_succ_of_lt mG
    have RG := Lib.hid SG
    clear SG
    have Bw := Cw
    clear Cw
    have BW := CW
    clear CW
    clear hb
    go_wp2_with fail
    refine (c_laws_eqPod D _ _ _ _ _ CG9 (C_Pod.now CW.out BW)).mono ?_
    rintro e w10 ⟨rfl, hb⟩
    have z10 := hb.size
    (try simp at z10)
    have SA : w10.heap[w.heap.size]? = some (.cells #[.string d0.name, .slice A1 d0.labels.length a1, .int .i64 d0.cpu, .int .i64 d0.mem, .int .i64 d0.rank, .slice A5 d0.needs.length a5, .slice A6 d0.tolerances.length a6] 39 (0, 0)) := (hb.block (w.heap.size) (by first | omega | (simp; try omega))).trans RA.out
    have SM : w10.heap[w3.heap.size]? = some (.cells #[.string D.name, .slice D1 D.labels.length d1, .int .i64 D.cpu, .int .i64 D.mem, .int .i64 D.rank, .slice D5 D.needs.length d5, .slice D6 D.tolerances.length d6] 44 (0, 0)) := (hb.block (w3.heap.size) (by first | omega | (simp; try omega))).trans RM.out
    have SX : w10.heap[w4.heap.size]? = some (.cells #[.string d0.name, .slice E1 d0.labels.length e1, .int .i64 d0.cpu, .int .i64 d0.mem, .int .i64 d0.rank, .slice E5 d0.needs.length e5, .slice E6 d0.tolerances.length e6] 44 (0, 0)) := (hb.block (w4.heap.size) (by first | omega | (simp; try omega))).trans RX.out
    have SG : w10.heap[w5.heap.size]? = some (.cells #[.string D.name, .slice G1 D.labels.length g1, .int .i64 D.cpu, .int .i64 D.mem, .int .i64 D.rank, .slice G5 D.needs.length g5, .slice G6 D.tolerances.length g6] 44 (0, 0)) := (hb.block (w5.heap.size) (by first | omega | (simp; try omega))).trans RG.out
    have Cw : Below w.heap.size w w10 := Bw.trans (hb.mono (by first | omega | (simp; try omega)))
    have CW : Below w3.heap.size w3 w10 := BW.trans (hb.mono (by first | omega | (simp; try omega)))
    have TG10 := TG9.carry (w' := w10) (fun b hq => hb.block b (by omega)) (fun _ h => h)
    clear TG9 CG9
    clear RA RM RX RG Bw BW xA0 xA1 xA2 xA3 xA4 xA5 xA6 xM0 xM1 xM2 xM3 xM4 xM5 xM6 xX0 xX1 xX2 xX3 xX4 xX5 xX6 xG0 xG1 xG2 xG3 xG4 xG5 xG6 xAf xMf xXf xGf lA mA nA lM mM nM lX mX nX lG mG nG
    obtain ⟨xA0, xA1, xA2, xA3, xA4, xA5, xA6, xAf⟩ := row7x SA
    have lA := row_lt SA
    have mA := Nat.lt_succ_of_lt lA
    have nA := Nat.lt_succ_of_lt mA
    have RA := Lib.hid SA
    clear SA
    obtain ⟨xM0, xM1, xM2, xM3, xM4, xM5, xM6, xMf⟩ := row7x SM
    have lM := row_lt SM
    have mM := Nat.lt_succ_of_lt lM
    have nM := Nat.lt_succ_of_lt mM
    have RM := Lib.hid SM
    clear SM
    obtain ⟨xX0, xX1, xX2, xX3, xX4, xX5, xX6, xXf⟩ := row7x SX
    have lX := row_lt SX
    have mX := Nat.lt_succ_of_lt lX
    have nX := Nat.lt_succ_of_lt mX
    have RX := Lib.hid SX
    clear SX
    obtain ⟨xG0, xG1, xG2, xG3, xG4, xG5, xG6, xGf⟩ := row7x SG
    have lG := row_lt SG
    have mG := Nat.lt_succ_of_lt lG
    have nG := Nat.lt_succ_of_lt mG
    have RG := Lib.hid SG
    clear SG
    have Bw := Cw
    clear Cw
    have BW := CW
    clear CW
    clear hb
    go_wp2_with fail
    refine (c_laws_markPod D _ _ _ _ TG10 (fun b hb => by omega) (by decide) (by have := HCD.out; omega)).mono ?_
    rintro e w11 ⟨l11, rfl, EL, TG11, MG, hb⟩
    obtain ⟨n5, hn5⟩ : ∃ n, n = cntPod D := ⟨_, rfl⟩
    have hn5b : (n5 : Int) ≤ 1099530502144 := by have := HCD.out; omega
    rw [← hn5]
    have HN5 := Lib.hid hn5
    clear hn5
    have z11 := hb.size
    have SA : w11.heap[w.heap.size]? = some (.cells #[.string d0.name, .slice A1 d0.labels.length a1, .int .i64 d0.cpu, .int .i64 d0.mem, .int .i64 d0.rank, .slice A5 d0.needs.length a5, .slice A6 d0.tolerances.length a6] 39 (0, 0)) := (hb.block (w.heap.size) (by omega) (by omega)).trans RA.out
    have SM : w11.heap[w3.heap.size]? = some (.cells #[.string D.name, .slice D1 D.labels.length d1, .int .i64 D.cpu, .int .i64 D.mem, .int .i64 D.rank, .slice D5 D.needs.length d5, .slice D6 D.tolerances.length d6] 44 (0, 0)) := (hb.block (w3.heap.size) (by omega) (by omega)).trans RM.out
    have SX : w11.heap[w4.heap.size]? = some (.cells #[.string d0.name, .slice E1 d0.labels.length e1, .int .i64 d0.cpu, .int .i64 d0.mem, .int .i64 d0.rank, .slice E5 d0.needs.length e5, .slice E6 d0.tolerances.length e6] 44 (0, 0)) := (hb.block (w4.heap.size) (by omega) (by omega)).trans RX.out
    have SG : w11.heap[w5.heap.size]? = some (.cells #[.string D.name, .slice G1 D.labels.length g1, .int .i64 D.cpu, .int .i64 D.mem, .int .i64 D.rank, .slice G5 D.needs.length g5, .slice G6 D.tolerances.length g6] 44 (0, 0)) := (hb.block (w5.heap.size) (by omega) (by omega)).trans RG.out
    have Cw : Below w.heap.size w w11 := Bw.trans (hb.below (by omega) (fun i hi => by omega))
    have CW : Below w3.heap.size w3 w11 := BW.trans (hb.below (by omega) (fun i hi => by omega))
    have CG11 := TG11.toC (lo := w4.heap.size + 1) (hi := w11.heap.size) (fun b hq => ⟨hq.1, by omega⟩)
    have HE := Lib.hid (show cntPod l11 = n5 by rw [EL]; exact HN5.out.symm)
    have HM := Lib.hid MG
    clear TG10 TG11 EL MG
    clear RA RM RX RG Bw BW xA0 xA1 xA2 xA3 xA4 xA5 xA6 xM0 xM1 xM2 xM3 xM4 xM5 xM6 xX0 xX1 xX2 xX3 xX4 xX5 xX6 xG0 xG1 xG2 xG3 xG4 xG5 xG6 xAf xMf xXf xGf lA mA nA lM mM nM lX mX nX lG mG nG
    obtain ⟨xA0, xA1, xA2, xA3, xA4, xA5, xA6, xAf⟩ := row7x SA
    have lA := row_lt SA
    have mA := Nat.lt_succ_of_lt lA
    have nA := Nat.lt_succ_of_lt mA
    have RA := Lib.hid SA
    clear SA
    obtain ⟨xM0, xM1, xM2, xM3, xM4, xM5, xM6, xMf⟩ := row7x SM
    have lM := row_lt SM
    have mM := Nat.lt_succ_of_lt lM
    have nM := Nat.lt_succ_of_lt mM
    have RM := Lib.hid SM
    clear SM
    obtain ⟨xX0, xX1, xX2, xX3, xX4, xX5, xX6, xXf⟩ := row7x SX
    have lX := row_lt SX
    have mX := Nat.lt_succ_of_lt lX
    have nX := Nat.lt_succ_of_lt mX
    have RX := Lib.hid SX
    clear SX
    obtain ⟨xG0, xG1, xG2, xG3, xG4, xG5, xG6, xGf⟩ := row7x SG
    have lG := row_lt SG
    have mG := Nat.lt_succ_of_lt lG
    have nG := Nat.lt_succ_of_lt mG
    have RG := Lib.hid SG
    clear SG
    have Bw := Cw
    clear Cw
    have BW := CW
    clear CW
    clear hb
    have BD : Below w11.heap.size w11 w11 := Below.refl _ _
    go_wp2_with fail
    refine (c_laws_heldPod l11 _ _ _ _ CG11 HM.out (by decide) (by rw [HE.out]; omega)).mono ?_
    rintro e w12 ⟨rfl, hb⟩
    rw [HE.out]
    have z12 := hb.size
    (try simp at z12)
    have SA : w12.heap[w.heap.size]? = some (.cells #[.string d0.name, .slice A1 d0.labels.length a1, .int .i64 d0.cpu, .int .i64 d0.mem, .int .i64 d0.rank, .slice A5 d0.needs.length a5, .slice A6 d0.tolerances.length a6] 39 (0, 0)) := (hb.block (w.heap.size) (by first | omega | (simp; try omega))).trans RA.out
    have SM : w12.heap[w3.heap.size]? = some (.cells #[.string D.name, .slice D1 D.labels.length d1, .int .i64 D.cpu, .int .i64 D.mem, .int .i64 D.rank, .slice D5 D.needs.length d5, .slice D6 D.tolerances.length d6] 44 (0, 0)) := (hb.block (w3.heap.size) (by first | omega | (simp; try omega))).trans RM.out
    have SX : w12.heap[w4.heap.size]? = some (.cells #[.string d0.name, .slice E1 d0.labels.length e1, .int .i64 d0.cpu, .int .i64 d0.mem, .int .i64 d0.rank, .slice E5 d0.needs.length e5, .slice E6 d0.tolerances.length e6] 44 (0, 0)) := (hb.block (w4.heap.size) (by first | omega | (simp; try omega))).trans RX.out
    have SG : w12.heap[w5.heap.size]? = some (.cells #[.string D.name, .slice G1 D.labels.length g1, .int .i64 D.cpu, .int .i64 D.mem, .int .i64 D.rank, .slice G5 D.needs.length g5, .slice G6 D.tolerances.length g6] 44 (0, 0)) := (hb.block (w5.heap.size) (by first | omega | (simp; try omega))).trans RG.out
    have Cw : Below w.heap.size w w12 := Bw.trans (hb.mono (by first | omega | (simp; try omega)))
    have CW : Below w3.heap.size w3 w12 := BW.trans (hb.mono (by first | omega | (simp; try omega)))
    have CD : Below w11.heap.size w11 w12 := BD.trans (hb.mono (by first | omega | (simp; try omega)))
    clear RA RM RX RG Bw BW BD xA0 xA1 xA2 xA3 xA4 xA5 xA6 xM0 xM1 xM2 xM3 xM4 xM5 xM6 xX0 xX1 xX2 xX3 xX4 xX5 xX6 xG0 xG1 xG2 xG3 xG4 xG5 xG6 xAf xMf xXf xGf lA mA nA lM mM nM lX mX nX lG mG nG
    obtain ⟨xA0, xA1, xA2, xA3, xA4, xA5, xA6, xAf⟩ := row7x SA
    have lA := row_lt SA
    have mA := Nat.lt_succ_of_lt lA
    have nA := Nat.lt_succ_of_lt mA
    have RA := Lib.hid SA
    clear SA
    obtain ⟨xM0, xM1, xM2, xM3, xM4, xM5, xM6, xMf⟩ := row7x SM
    have lM := row_lt SM
    have mM := Nat.lt_succ_of_lt lM
    have nM := Nat.lt_succ_of_lt mM
    have RM := Lib.hid SM
    clear SM
    obtain ⟨xX0, xX1, xX2, xX3, xX4, xX5, xX6, xXf⟩ := row7x SX
    have lX := row_lt SX
    have mX := Nat.lt_succ_of_lt lX
    have nX := Nat.lt_succ_of_lt mX
    have RX := Lib.hid SX
    clear SX
    obtain ⟨xG0, xG1, xG2, xG3, xG4, xG5, xG6, xGf⟩ := row7x SG
    have lG := row_lt SG
    have mG := Nat.lt_succ_of_lt lG
    have nG := Nat.lt_succ_of_lt mG
    have RG := Lib.hid SG
    clear SG
    have Bw := Cw
    clear Cw
    have BW := CW
    clear CW
    have BD := CD
    clear CD
    clear hb
    go_wp2_with fail
    refine (c_laws_toPod d0 [.string d0.name, .slice A1 d0.labels.length a1, .int .i64 d0.cpu, .int .i64 d0.mem, .int .i64 d0.rank, .slice A5 d0.needs.length a5, .slice A6 d0.tolerances.length a6] _ _ (C_Pod.now HCN.out Bw) hnN).mono ?_
    rintro e w13 ⟨cs13, rfl, hr13, hb⟩
    obtain ⟨U1, u1, U5, u5, U6, u6, rfl⟩ := C_Pod.open hr13
    have z13 := hb.size
    (try simp at z13)
    have SA : w13.heap[w.heap.size]? = some (.cells #[.string d0.name, .slice A1 d0.labels.length a1, .int .i64 d0.cpu, .int .i64 d0.mem, .int .i64 d0.rank, .slice A5 d0.needs.length a5, .slice A6 d0.tolerances.length a6] 39 (0, 0)) := (hb.block (w.heap.size) (by first | omega | (simp; try omega))).trans RA.out
    have SM : w13.heap[w3.heap.size]? = some (.cells #[.string D.name, .slice D1 D.labels.length d1, .int .i64 D.cpu, .int .i64 D.mem, .int .i64 D.rank, .slice D5 D.needs.length d5, .slice D6 D.tolerances.length d6] 44 (0, 0)) := (hb.block (w3.heap.size) (by first | omega | (simp; try omega))).trans RM.out
    have SX : w13.heap[w4.heap.size]? = some (.cells #[.string d0.name, .slice E1 d0.labels.length e1, .int .i64 d0.cpu, .int .i64 d0.mem, .int .i64 d0.rank, .slice E5 d0.needs.length e5, .slice E6 d0.tolerances.length e6] 44 (0, 0)) := (hb.block (w4.heap.size) (by first | omega | (simp; try omega))).trans RX.out
    have SG : w13.heap[w5.heap.size]? = some (.cells #[.string D.name, .slice G1 D.labels.length g1, .int .i64 D.cpu, .int .i64 D.mem, .int .i64 D.rank, .slice G5 D.needs.length g5, .slice G6 D.tolerances.length g6] 44 (0, 0)) := (hb.block (w5.heap.size) (by first | omega | (simp; try omega))).trans RG.out
    have Cw : Below w.heap.size w w13 := Bw.trans (hb.mono (by first | omega | (simp; try omega)))
    have CW : Below w3.heap.size w3 w13 := BW.trans (hb.mono (by first | omega | (simp; try omega)))
    have CD : Below w11.heap.size w11 w13 := BD.trans (hb.mono (by first | omega | (simp; try omega)))
    clear RA RM RX RG Bw BW BD xA0 xA1 xA2 xA3 xA4 xA5 xA6 xM0 xM1 xM2 xM3 xM4 xM5 xM6 xX0 xX1 xX2 xX3 xX4 xX5 xX6 xG0 xG1 xG2 xG3 xG4 xG5 xG6 xAf xMf xXf xGf lA mA nA lM mM nM lX mX nX lG mG nG
    obtain ⟨xA0, xA1, xA2, xA3, xA4, xA5, xA6, xAf⟩ := row7x SA
    have lA := row_lt SA
    have mA := Nat.lt_succ_of_lt lA
    have nA := Nat.lt_succ_of_lt mA
    have RA := Lib.hid SA
    clear SA
    obtain ⟨xM0, xM1, xM2, xM3, xM4, xM5, xM6, xMf⟩ := row7x SM
    have lM := row_lt SM
    have mM := Nat.lt_succ_of_lt lM
    have nM := Nat.lt_succ_of_lt mM
    have RM := Lib.hid SM
    clear SM
    obtain ⟨xX0, xX1, xX2, xX3, xX4, xX5, xX6, xXf⟩ := row7x SX
    have lX := row_lt SX
    have mX := Nat.lt_succ_of_lt lX
    have nX := Nat.lt_succ_of_lt mX
    have RX := Lib.hid SX
    clear SX
    obtain ⟨xG0, xG1, xG2, xG3, xG4, xG5, xG6, xGf⟩ := row7x SG
    have lG := row_lt SG
    have mG := Nat.lt_succ_of_lt lG
    have nG := Nat.lt_succ_of_lt mG
    have RG := Lib.hid SG
    clear SG
    have Bw := Cw
    clear Cw
    have BW := CW
    clear CW
    have BD := CD
    clear CD
    clear hb
    go_wp2_with fail
    refine (c_impl_PodNormal d0 _ _ _ hr13 hn0 hn1 hn2 HV.out).mono ?_
    rintro e w14 ⟨cs14, rfl, R14, hb⟩
    rw [← HB.out]
    rw [← HL.out] at R14
    obtain ⟨V1, v1, V5, v5, V6, v6, rfl⟩ := R14.open
    have z14 := hb.size
    (try simp at z14)
    have SA : w14.heap[w.heap.size]? = some (.cells #[.string d0.name, .slice A1 d0.labels.length a1, .int .i64 d0.cpu, .int .i64 d0.mem, .int .i64 d0.rank, .slice A5 d0.needs.length a5, .slice A6 d0.tolerances.length a6] 39 (0, 0)) := (hb.block (w.heap.size) (by first | omega | (simp; try omega))).trans RA.out
    have SM : w14.heap[w3.heap.size]? = some (.cells #[.string D.name, .slice D1 D.labels.length d1, .int .i64 D.cpu, .int .i64 D.mem, .int .i64 D.rank, .slice D5 D.needs.length d5, .slice D6 D.tolerances.length d6] 44 (0, 0)) := (hb.block (w3.heap.size) (by first | omega | (simp; try omega))).trans RM.out
    have SX : w14.heap[w4.heap.size]? = some (.cells #[.string d0.name, .slice E1 d0.labels.length e1, .int .i64 d0.cpu, .int .i64 d0.mem, .int .i64 d0.rank, .slice E5 d0.needs.length e5, .slice E6 d0.tolerances.length e6] 44 (0, 0)) := (hb.block (w4.heap.size) (by first | omega | (simp; try omega))).trans RX.out
    have SG : w14.heap[w5.heap.size]? = some (.cells #[.string D.name, .slice G1 D.labels.length g1, .int .i64 D.cpu, .int .i64 D.mem, .int .i64 D.rank, .slice G5 D.needs.length g5, .slice G6 D.tolerances.length g6] 44 (0, 0)) := (hb.block (w5.heap.size) (by first | omega | (simp; try omega))).trans RG.out
    have Cw : Below w.heap.size w w14 := Bw.trans (hb.mono (by first | omega | (simp; try omega)))
    have CW : Below w3.heap.size w3 w14 := BW.trans (hb.mono (by first | omega | (simp; try omega)))
    have CD : Below w11.heap.size w11 w14 := BD.trans (hb.mono (by first | omega | (simp; try omega)))
    have CH := R14.toC (fun b hb => hb)
    clear R14
    clear RA RM RX RG Bw BW BD xA0 xA1 xA2 xA3 xA4 xA5 xA6 xM0 xM1 xM2 xM3 xM4 xM5 xM6 xX0 xX1 xX2 xX3 xX4 xX5 xX6 xG0 xG1 xG2 xG3 xG4 xG5 xG6 xAf xMf xXf xGf lA mA nA lM mM nM lX mX nX lG mG nG
    obtain ⟨xA0, xA1, xA2, xA3, xA4, xA5, xA6, xAf⟩ := row7x SA
    have lA := row_lt SA
    have mA := Nat.lt_succ_of_lt lA
    have nA := Nat.lt_succ_of_lt mA
    have RA := Lib.hid SA
    clear SA
    obtain ⟨xM0, xM1, xM2, xM3, xM4, xM5, xM6, xMf⟩ := row7x SM
    have lM := row_lt SM
    have mM := Nat.lt_succ_of_lt lM
    have nM := Nat.lt_succ_of_lt mM
    have RM := Lib.hid SM
    clear SM
    obtain ⟨xX0, xX1, xX2, xX3, xX4, xX5, xX6, xXf⟩ := row7x SX
    have lX := row_lt SX
    have mX := Nat.lt_succ_of_lt lX
    have nX := Nat.lt_succ_of_lt mX
    have RX := Lib.hid SX
    clear SX
    obtain ⟨xG0, xG1, xG2, xG3, xG4, xG5, xG6, xGf⟩ := row7x SG
    have lG := row_lt SG
    have mG := Nat.lt_succ_of_lt lG
    have nG := Nat.lt_succ_of_lt mG
    have RG := Lib.hid SG
    clear SG
    have Bw := Cw
    clear Cw
    have BW := CW
    clear CW
    have BD := CD
    clear CD
    clear hb
    go_wp2_with fail
    refine (c_laws_eqPod D _ _ _ _ _ (C_Pod.now CH ((Below.refl _ _).alloc (Nat.le_refl _) _)) (C_Pod.now CW.out (BW.alloc (by first | omega | (simp; try omega)) _))).mono ?_
    rintro e w15 ⟨rfl, hb⟩
    have z15 := hb.size
    (try simp at z15)
    have SA : w15.heap[w.heap.size]? = some (.cells #[.string d0.name, .slice A1 d0.labels.length a1, .int .i64 d0.cpu, .int .i64 d0.mem, .int .i64 d0.rank, .slice A5 d0.needs.length a5, .slice A6 d0.tolerances.length a6] 39 (0, 0)) := (hb.block (w.heap.size) (by first | omega | (simp; try omega))).trans ((Below.heap_alloc _ _ _ (by first | omega | (simp; try omega))).trans RA.out)
    have SM : w15.heap[w3.heap.size]? = some (.cells #[.string D.name, .slice D1 D.labels.length d1, .int .i64 D.cpu, .int .i64 D.mem, .int .i64 D.rank, .slice D5 D.needs.length d5, .slice D6 D.tolerances.length d6] 44 (0, 0)) := (hb.block (w3.heap.size) (by first | omega | (simp; try omega))).trans ((Below.heap_alloc _ _ _ (by first | omega | (simp; try omega))).trans RM.out)
    have SX : w15.heap[w4.heap.size]? = some (.cells #[.string d0.name, .slice E1 d0.labels.length e1, .int .i64 d0.cpu, .int .i64 d0.mem, .int .i64 d0.rank, .slice E5 d0.needs.length e5, .slice E6 d0.tolerances.length e6] 44 (0, 0)) := (hb.block (w4.heap.size) (by first | omega | (simp; try omega))).trans ((Below.heap_alloc _ _ _ (by first | omega | (simp; try omega))).trans RX.out)
    have SG : w15.heap[w5.heap.size]? = some (.cells #[.string D.name, .slice G1 D.labels.length g1, .int .i64 D.cpu, .int .i64 D.mem, .int .i64 D.rank, .slice G5 D.needs.length g5, .slice G6 D.tolerances.length g6] 44 (0, 0)) := (hb.block (w5.heap.size) (by first | omega | (simp; try omega))).trans ((Below.heap_alloc _ _ _ (by first | omega | (simp; try omega))).trans RG.out)
    have SP : w15.heap[w14.heap.size]? = some (.cells #[.string D.name, .slice V1 D.labels.length v1, .int .i64 D.cpu, .int .i64 D.mem, .int .i64 D.rank, .slice V5 D.needs.length v5, .slice V6 D.tolerances.length v6] 44 (0, 0)) := (hb.block (w14.heap.size) (by first | omega | (simp; try omega))).trans (heap_at (by simp))
    have Cw : Below w.heap.size w w15 := (Bw.alloc (by first | omega | (simp; try omega)) _).trans (hb.mono (by first | omega | (simp; try omega)))
    have CW : Below w3.heap.size w3 w15 := (BW.alloc (by first | omega | (simp; try omega)) _).trans (hb.mono (by first | omega | (simp; try omega)))
    have CD : Below w11.heap.size w11 w15 := (BD.alloc (by first | omega | (simp; try omega)) _).trans (hb.mono (by first | omega | (simp; try omega)))
    clear RA RM RX RG Bw BW BD xA0 xA1 xA2 xA3 xA4 xA5 xA6 xM0 xM1 xM2 xM3 xM4 xM5 xM6 xX0 xX1 xX2 xX3 xX4 xX5 xX6 xG0 xG1 xG2 xG3 xG4 xG5 xG6 xAf xMf xXf xGf lA mA nA lM mM nM lX mX nX lG mG nG
    obtain ⟨xA0, xA1, xA2, xA3, xA4, xA5, xA6, xAf⟩ := row7x SA
    have lA := row_lt SA
    have mA := Nat.lt_succ_of_lt lA
    have nA := Nat.lt_succ_of_lt mA
    have RA := Lib.hid SA
    clear SA
    obtain ⟨xM0, xM1, xM2, xM3, xM4, xM5, xM6, xMf⟩ := row7x SM
    have lM := row_lt SM
    have mM := Nat.lt_succ_of_lt lM
    have nM := Nat.lt_succ_of_lt mM
    have RM := Lib.hid SM
    clear SM
    obtain ⟨xX0, xX1, xX2, xX3, xX4, xX5, xX6, xXf⟩ := row7x SX
    have lX := row_lt SX
    have mX := Nat.lt_succ_of_lt lX
    have nX := Nat.lt_succ_of_lt mX
    have RX := Lib.hid SX
    clear SX
    obtain ⟨xG0, xG1, xG2, xG3, xG4, xG5, xG6, xGf⟩ := row7x SG
    have lG := row_lt SG
    have mG := Nat.lt_succ_of_lt lG
    have nG := Nat.lt_succ_of_lt mG
    have RG := Lib.hid SG
    clear SG
    obtain ⟨xP0, xP1, xP2, xP3, xP4, xP5, xP6, xPf⟩ := row7x SP
    have lP := row_lt SP
    have mP := Nat.lt_succ_of_lt lP
    have nP := Nat.lt_succ_of_lt mP
    have RP := Lib.hid SP
    clear SP
    have Bw := Cw
    clear Cw
    have BW := CW
    clear CW
    have BD := CD
    clear CD
    clear hb
    go_wp2_with fail
    refine (c_laws_heldPod l11 _ _ _ _ (C_Pod.now CG11 BD) HM.out (by decide) (by rw [HE.out]; omega)).mono ?_
    rintro e w16 ⟨rfl, hb⟩
    rw [HE.out]
    have z16 := hb.size
    (try simp at z16)
    have SA : w16.heap[w.heap.size]? = some (.cells #[.string d0.name, .slice A1 d0.labels.length a1, .int .i64 d0.cpu, .int .i64 d0.mem, .int .i64 d0.rank, .slice A5 d0.needs.length a5, .slice A6 d0.tolerances.length a6] 39 (0, 0)) := (hb.block (w.heap.size) (by first | omega | (simp; try omega))).trans RA.out
    have SM : w16.heap[w3.heap.size]? = some (.cells #[.string D.name, .slice D1 D.labels.length d1, .int .i64 D.cpu, .int .i64 D.mem, .int .i64 D.rank, .slice D5 D.needs.length d5, .slice D6 D.tolerances.length d6] 44 (0, 0)) := (hb.block (w3.heap.size) (by first | omega | (simp; try omega))).trans RM.out
    have SX : w16.heap[w4.heap.size]? = some (.cells #[.string d0.name, .slice E1 d0.labels.length e1, .int .i64 d0.cpu, .int .i64 d0.mem, .int .i64 d0.rank, .slice E5 d0.needs.length e5, .slice E6 d0.tolerances.length e6] 44 (0, 0)) := (hb.block (w4.heap.size) (by first | omega | (simp; try omega))).trans RX.out
    have SG : w16.heap[w5.heap.size]? = some (.cells #[.string D.name, .slice G1 D.labels.length g1, .int .i64 D.cpu, .int .i64 D.mem, .int .i64 D.rank, .slice G5 D.needs.length g5, .slice G6 D.tolerances.length g6] 44 (0, 0)) := (hb.block (w5.heap.size) (by first | omega | (simp; try omega))).trans RG.out
    have SP : w16.heap[w14.heap.size]? = some (.cells #[.string D.name, .slice V1 D.labels.length v1, .int .i64 D.cpu, .int .i64 D.mem, .int .i64 D.rank, .slice V5 D.needs.length v5, .slice V6 D.tolerances.length v6] 44 (0, 0)) := (hb.block (w14.heap.size) (by first | omega | (simp; try omega))).trans RP.out
    have Cw : Below w.heap.size w w16 := Bw.trans (hb.mono (by first | omega | (simp; try omega)))
    have CW : Below w3.heap.size w3 w16 := BW.trans (hb.mono (by first | omega | (simp; try omega)))
    have CD : Below w11.heap.size w11 w16 := BD.trans (hb.mono (by first | omega | (simp; try omega)))
    clear RA RM RX RG RP Bw BW BD xA0 xA1 xA2 xA3 xA4 xA5 xA6 xM0 xM1 xM2 xM3 xM4 xM5 xM6 xX0 xX1 xX2 xX3 xX4 xX5 xX6 xG0 xG1 xG2 xG3 xG4 xG5 xG6 xP0 xP1 xP2 xP3 xP4 xP5 xP6 xAf xMf xXf xGf xPf lA mA nA lM mM nM lX mX nX lG mG nG lP mP nP
    obtain ⟨xA0, xA1, xA2, xA3, xA4, xA5, xA6, xAf⟩ := row7x SA
    have lA := row_lt SA
    have mA := Nat.lt_succ_of_lt lA
    have nA := Nat.lt_succ_of_lt mA
    have RA := Lib.hid SA
    clear SA
    obtain ⟨xM0, xM1, xM2, xM3, xM4, xM5, xM6, xMf⟩ := row7x SM
    have lM := row_lt SM
    have mM := Nat.lt_succ_of_lt lM
    have nM := Nat.lt_succ_of_lt mM
    have RM := Lib.hid SM
    clear SM
    obtain ⟨xX0, xX1, xX2, xX3, xX4, xX5, xX6, xXf⟩ := row7x SX
    have lX := row_lt SX
    have mX := Nat.lt_succ_of_lt lX
    have nX := Nat.lt_succ_of_lt mX
    have RX := Lib.hid SX
    clear SX
    obtain ⟨xG0, xG1, xG2, xG3, xG4, xG5, xG6, xGf⟩ := row7x SG
    have lG := row_lt SG
    have mG := Nat.lt_succ_of_lt lG
    have nG := Nat.lt_succ_of_lt mG
    have RG := Lib.hid SG
    clear SG
    obtain ⟨xP0, xP1, xP2, xP3, xP4, xP5, xP6, xPf⟩ := row7x SP
    have lP := row_lt SP
    have mP := Nat.lt_succ_of_lt lP
    have nP := Nat.lt_succ_of_lt mP
    have RP := Lib.hid SP
    clear SP
    have Bw := Cw
    clear Cw
    have BW := CW
    clear CW
    have BD := CD
    clear CD
    clear hb
    go_wp2_with fail
    go_ret
    exact ⟨rfl, Bw⟩
  · have hz := szI_neg hq
    have hz2 : szI 1048576 (nPod d0) < 0 := by omega
    clear hz
    go_enter Tryz.func4, Tryz.ntmps4
    go_wp2_with (go_at_call 15; refine (c_laws_szPod d0 [.string d0.name, .slice A1 d0.labels.length a1, .int .i64 d0.cpu, .int .i64 d0.mem, .int .i64 d0.rank, .slice A5 d0.needs.length a5, .slice A6 d0.tolerances.length a6] _ _ _ (C_Pod.now hC bel) (by omega) (by omega)).mono ?_; rintro e w1 ⟨rfl, hb⟩)
    go_ret
    exact ⟨rfl, bel⟩
end Go.Proofs.YtmhlnbihppojmaaGreat
