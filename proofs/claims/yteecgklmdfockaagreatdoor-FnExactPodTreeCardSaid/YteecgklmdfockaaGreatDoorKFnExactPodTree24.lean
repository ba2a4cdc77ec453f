/- Written by wip/tools/pack.py: the texts that FnExactPodTree needs, without what it does not need. No conditions. -/
import Derived.Test.YteecgklmdfockaaGreatDoorKFnExactPodTree22
import Derived.Test.YteecgklmdfockaaGreatDoorKFnExactPodTree23
namespace Go.Proofs.YteecgklmdfockaaGreatDoor
open Go.RowKit
theorem cnt_podT (d : Pod) : cntT 5 (podT d) ≤ 4194304 := by
  unfold podT
  split
  · rename_i h
    rw [cntT_succ]
    have hk : (podKs d).length ≤ 10 := by
      unfold podKs
      have h0 := headK_len d.labels
      have h1 := optK_len (!d.needs.isEmpty) hNeeds
      have h2 := optK_len (d.rank != 0) hRank
      have h3 := optK_len (!d.tolerances.isEmpty) hTolerances
      simp only [List.length_append]
      omega
    have hl : (podTs d).length ≤ 10 := by
      unfold podTs
      have h0 := headKT ⟨#[112, 111, 100]⟩ d.name d.labels d.cpu d.mem
      have h9 := headK_len d.labels
      have h1 := optD_len (!d.needs.isEmpty) (lstD (d.needs.map needT))
      have h2 := optD_len (d.rank != 0) (intD d.rank)
      have h3 := optD_len (!d.tolerances.isEmpty) (lstD (d.tolerances.map tolTD))
      simp only [List.length_append]
      omega
    have hB := cntL_bound 4 500 (podTs d) (by
      intro t ht
      unfold podTs at ht
      simp only [List.mem_append] at ht
      rcases ht with ((ht | ht) | ht) | ht
      · exact head_kids 2 _ _ _ _ _ t ht
      · exact optD_kids 4 500 _ _ (by exact cnt_lst 3 60 _ (by intro t ht; obtain ⟨x, -, rfl⟩ := List.mem_map.1 ht; exact cnt_needD 0 x) (by rw [List.length_map]; unfold podB selB at h; simp only [Bool.and_eq_true, decide_eq_true_eq] at h; omega) (by decide)) t ht
      · exact optD_kids 4 500 _ _ (by rw [cnt_intD]; omega) t ht
      · exact optD_kids 4 500 _ _ (by exact cnt_lst 3 20 _ (by intro t ht; obtain ⟨x, -, rfl⟩ := List.mem_map.1 ht; exact cnt_tol 1 x) (by rw [List.length_map]; unfold podB tolsOkB at h; simp only [Bool.and_eq_true, decide_eq_true_eq] at h; omega) (by decide)) t ht
      )
    have h2 : (podTs d).length * (4 + 500) ≤ 10 * (4 + 500) := Nat.mul_le_mul_right _ hl
    show (podKs d).length + cntL 4 (podTs d) ≤ 4194304
    omega
  · rw [cnt_tree0]; omega
theorem sum_valuesT : ∀ (l : List Need) (d : Need), d ∈ l → d.values.length ≤ szL nNeed l
  | [], d, h => by simp at h
  | x :: l, d, h => by
    have hx : szL nNeed (x :: l) = nNeed x + szL nNeed l := rfl
    rcases List.mem_cons.1 h with rfl | h
    · have : d.values.length ≤ nNeed d := by
        unfold nNeed
        have := nL_def ByteArray.size d.values
        omega
      omega
    · have := sum_valuesT l d h
      omega
theorem sizesT_Pod (d : Pod) (h : nPod d ≤ 1048576) : d.labels.length ≤ 1048576 ∧ d.needs.length ≤ 1048576 ∧ d.tolerances.length ≤ 1048576 ∧ ∀ x ∈ d.needs, x.values.length ≤ 1048576 := by
  unfold nPod at h
  have h_labels := nL_def nLabel d.labels
  have h_needs := nL_def nNeed d.needs
  have h_tolerances := nL_def nTolerance d.tolerances
  exact ⟨by omega, by omega, by omega, fun x hx => by have := sum_valuesT d.needs x hx; omega⟩
theorem cntT_small_Pod (d : Pod) (h1 : d.labels.length ≤ 1048576) (h2 : d.needs.length ≤ 1048576) (h3 : d.tolerances.length ≤ 1048576) (hv : ∀ x ∈ d.needs, x.values.length ≤ 1048576) : cntPod d ≤ 1099530502144 := by
  unfold cntPod
  have h5 := cntN_bound 1048576 d.needs hv
  have h6 : d.needs.length * (2 + 1048576) ≤ 1048576 * (2 + 1048576) := Nat.mul_le_mul_right _ h2
  omega
theorem row7 {w : World} {b : Nat} {a0 a1 a2 a3 a4 a5 a6 : Value} {e : TypeId} (hr : w.heap[b]? = some (.cells #[a0, a1, a2, a3, a4, a5, a6] e (0, 0))) : w.cell? ⟨b, 0, none⟩ = some a0 ∧ w.cell? ⟨b, 1, none⟩ = some a1 ∧ w.cell? ⟨b, 2, none⟩ = some a2 ∧ w.cell? ⟨b, 3, none⟩ = some a3 ∧ w.cell? ⟨b, 4, none⟩ = some a4 ∧ w.cell? ⟨b, 5, none⟩ = some a5 ∧ w.cell? ⟨b, 6, none⟩ = some a6 ∧ ∀ o, w.frozen? ⟨b, o, none⟩ = false := row7x hr
set_option maxHeartbeats 8000000 in
set_option maxRecDepth 20000 in
theorem w_FnExactPodTree (d0 : Pod) (v0 : Value) (w : World) (h0 : R_Pod w d0 v0) (hp : Pow w) :
    Calls Tryz.prog 4 #[v0] w fun e w' => e = .returned (.bool true) ∧ Below w.heap.size w w' := by
  obtain ⟨cs, rfl, hC⟩ := h0
  have hC1 := hC
  obtain ⟨A1, a1, A5, a5, A6, a6, rfl⟩ := C_Pod.open hC1
  by_cases hq : ((nPod d0 : Nat) : Int) ≤ 1048576
  · have hz := szI_pos hq
    have hz2 : ¬ szI 1048576 (nPod d0) < 0 := by omega
    have hnN : nPod d0 ≤ 1048576 := by omega
    obtain ⟨hn0, hn1, hn2, hv⟩ := sizesT_Pod d0 hnN
    obtain ⟨T, hT⟩ : ∃ T, T = podT d0 := ⟨_, rfl⟩
    have Hc : cntT 5 T ≤ 4194304 := by rw [hT]; exact cnt_podT _
    have hc0 : cntPod d0 ≤ 1099530502144 := cntT_small_Pod d0 hn0 hn1 hn2 hv
    have HT := Lib.hid hT
    have HC := Lib.hid Hc
    have HC0 := Lib.hid hc0
    have HCN := Lib.hid hC
    have Hp := Lib.hid hp
    clear hz hT Hc hc0 hC hC1 hp hv
    go_enter Tryz.func4, Tryz.ntmps4
    have Bw : Below w.heap.size w w := Below.refl _ _
    go_wp2_with fail
    refine (c_laws_szPod d0 [.string d0.name, .slice A1 d0.labels.length a1, .int .i64 d0.cpu, .int .i64 d0.mem, .int .i64 d0.rank, .slice A5 d0.needs.length a5, .slice A6 d0.tolerances.length a6] _ _ _ (C_Pod.now HCN.out bel) (by omega) (by omega)).mono ?_
    rintro e w1 ⟨rfl, hb⟩
    have z1 := hb.size
    (try simp at z1)
    have SA : w1.heap[w.heap.size]? = some (.cells #[.string d0.name, .slice A1 d0.labels.length a1, .int .i64 d0.cpu, .int .i64 d0.mem, .int .i64 d0.rank, .slice A5 d0.needs.length a5, .slice A6 d0.tolerances.length a6] 45 (0, 0)) := (hb.block (w.heap.size) (by first | omega | (simp; try omega))).trans (heap_at (by simp))
    have Cw : Below w.heap.size w w1 := (Bw.alloc (by first | omega | (simp; try omega)) _).trans (hb.mono (by first | omega | (simp; try omega)))
    obtain ⟨xA0, xA1, xA2, xA3, xA4, xA5, xA6, xAf⟩ := row7 SA
    have lA := row_lt SA
    have mA := Nat.lt_succ_of_lt lA
    have nA := Nat.lt_succ_of_lt mA
    have RA := Lib.hid SA
    clear SA
    have Bw := Cw
    clear Cw
    clear hb
    go_wp2_with fail
    refine (c_laws_toPod d0 [.string d0.name, .slice A1 d0.labels.length a1, .int .i64 d0.cpu, .int .i64 d0.mem, .int .i64 d0.rank, .slice A5 d0.needs.length a5, .slice A6 d0.tolerances.length a6] _ _ (C_Pod.now HCN.out Bw) hnN).mono ?_
    rintro e w2 ⟨cs2, rfl, hr2, hb⟩
    obtain ⟨T1, t1, T5, t5, T6, t6, rfl⟩ := C_Pod.open hr2
    have z2 := hb.size
    (try simp at z2)
    have SA : w2.heap[w.heap.size]? = some (.cells #[.string d0.name, .slice A1 d0.labels.length a1, .int .i64 d0.cpu, .int .i64 d0.mem, .int .i64 d0.rank, .slice A5 d0.needs.length a5, .slice A6 d0.tolerances.length a6] 45 (0, 0)) := (hb.block (w.heap.size) (by first | omega | (simp; try omega))).trans RA.out
    have Cw : Below w.heap.size w w2 := Bw.trans (hb.mono (by first | omega | (simp; try omega)))
    clear RA Bw xA0 xA1 xA2 xA3 xA4 xA5 xA6 xAf lA mA nA
    obtain ⟨xA0, xA1, xA2, xA3, xA4, xA5, xA6, xAf⟩ := row7 SA
    have lA := row_lt SA
    have mA := Nat.lt_succ_of_lt lA
    have nA := Nat.lt_succ_of_lt mA
    have RA := Lib.hid SA
    clear SA
    have Bw := Cw
    clear Cw
    clear hb
    go_wp2_with fail
    refine (c_spec_PodTree 0 d0 _ _ _ hr2).mono ?_
    rintro e w3 ⟨cs3, rfl, T3, hb⟩
    rw [← HT.out] at T3
    obtain ⟨D4, e4, D5, e5, rfl, -⟩ := T3.flat
    have z3 := hb.size
    (try simp at z3)
    have SA : w3.heap[w.heap.size]? = some (.cells #[.string d0.name, .slice A1 d0.labels.length a1, .int .i64 d0.cpu, .int .i64 d0.mem, .int .i64 d0.rank, .slice A5 d0.needs.length a5, .slice A6 d0.tolerances.length a6] 45 (0, 0)) := (hb.block (w.heap.size) (by first | omega | (simp; try omega))).trans RA.out
    have Cw : Below w.heap.size w w3 := Bw.trans (hb.mono (by first | omega | (simp; try omega)))
    have CW := T3.toC (fun b hb => hb)
    clear T3
    clear RA Bw xA0 xA1 xA2 xA3 xA4 xA5 xA6 xAf lA mA nA
    obtain ⟨xA0, xA1, xA2, xA3, xA4, xA5, xA6, xAf⟩ := row7 SA
    have lA := row_lt SA
    have mA := Nat.lt_succ_of_lt lA
    have nA := Nat.lt_succ_of_lt mA
    have RA := Lib.hid SA
    clear SA
    have Bw := Cw
    clear Cw
    clear hb
    have BW : Below w3.heap.size w3 w3 := Below.refl _ _
    go_wp2_with fail
    refine (c_laws_toPodO d0 [.string d0.name, .slice A1 d0.labels.length a1, .int .i64 d0.cpu, .int .i64 d0.mem, .int .i64 d0.rank, .slice A5 d0.needs.length a5, .slice A6 d0.tolerances.length a6] _ _ (C_Pod.now HCN.out (Bw.alloc (by first | omega | (simp; try omega)) _)) hnN).mono ?_
    rintro e w4 ⟨cs4, rfl, O4, hb⟩
    obtain ⟨E1, k1, E5, k5, E6, k6, rfl⟩ := O4.open
    have z4 := hb.size
    (try simp at z4)
    have SA : w4.heap[w.heap.size]? = some (.cells #[.string d0.name, .slice A1 d0.labels.length a1, .int .i64 d0.cpu, .int .i64 d0.mem, .int .i64 d0.rank, .slice A5 d0.needs.length a5, .slice A6 d0.tolerances.length a6] 45 (0, 0)) := (hb.block (w.heap.size) (by first | omega | (simp; try omega))).trans ((Below.heap_alloc _ _ _ (by first | omega | (simp; try omega))).trans RA.out)
    have SM : w4.heap[w3.heap.size]? = some (.cells #[.int .i64 T.kind, .bool T.flag, .int .i64 T.num, .string T.text, .slice D4 T.keys.length e4, .slice D5 T.kids.length e5] 30 (0, 0)) := (hb.block (w3.heap.size) (by first | omega | (simp; try omega))).trans (heap_at (by simp))
    have Cw : Below w.heap.size w w4 := (Bw.alloc (by first | omega | (simp; try omega)) _).trans (hb.mono (by first | omega | (simp; try omega)))
    have CW : Below w3.heap.size w3 w4 := (BW.alloc (by first | omega | (simp; try omega)) _).trans (hb.mono (by first | omega | (simp; try omega)))
    have OX := O4.carry (S' := fun b => w3.heap.size + 1 ≤ b ∧ b < w4.heap.size) (fun _ _ => rfl) (fun b hb => by simpa using hb)
    have CX := OX.toC (fun b hb => hb)
    clear O4
    clear RA Bw BW xA0 xA1 xA2 xA3 xA4 xA5 xA6 xAf lA mA nA
    obtain ⟨xA0, xA1, xA2, xA3, xA4, xA5, xA6, xAf⟩ := row7 SA
    have lA := row_lt SA
    have mA := Nat.lt_succ_of_lt lA
    have nA := Nat.lt_succ_of_lt mA
    have RA := Lib.hid SA
    clear SA
    obtain ⟨xM0, xM1, xM2, xM3, xM4, xM5, xMf⟩ := row6 SM
    have lM := row_lt SM
    have mM := Nat.lt_succ_of_lt lM
    have nM := Nat.lt_succ_of_lt mM
    have RM := Lib.hid SM
    clear SM
    have Bw := Cw
    clear Cw
    have BW := CW
    clear CW
    clear hb
    have BX : Below w4.heap.size w4 w4 := Below.refl _ _
    go_wp2_with fail
    refine (c_impl_PodTree 0 d0 [.string d0.name, .slice E1 d0.labels.length k1, .int .i64 d0.cpu, .int .i64 d0.mem, .int .i64 d0.rank, .slice E5 d0.needs.length k5, .slice E6 d0.tolerances.length k6] _ _ (C_Pod.now CX (BX.alloc (Nat.le_refl _) _)) (Hp.out.below (Bw.alloc (by first | omega | (simp; try omega)) _))).mono ?_
    rintro e w5 ⟨cs5, rfl, T5, hb⟩
    rw [← HT.out] at T5
    obtain ⟨G4, i4, G5, i5, rfl, -⟩ := T5.flat
    have z5 := hb.size
    (try simp at z5)
    have SA : w5.heap[w.heap.size]? = some (.cells #[.string d0.name, .slice A1 d0.labels.length a1, .int .i64 d0.cpu, .int .i64 d0.mem, .int .i64 d0.rank, .slice A5 d0.needs.length a5, .slice A6 d0.tolerances.length a6] 45 (0, 0)) := (hb.block (w.heap.size) (by first | omega | (simp; try omega))).trans ((Below.heap_alloc _ _ _ (by first | omega | (simp; try omega))).trans RA.out)
    have SM : w5.heap[w3.heap.size]? = some (.cells #[.int .i64 T.kind, .bool T.flag, .int .i64 T.num, .string T.text, .slice D4 T.keys.length e4, .slice D5 T.kids.length e5] 30 (0, 0)) := (hb.block (w3.heap.size) (by first | omega | (simp; try omega))).trans ((Below.heap_alloc _ _ _ (by first | omega | (simp; try omega))).trans RM.out)
    have SX : w5.heap[w4.heap.size]? = some (.cells #[.string d0.name, .slice E1 d0.labels.length k1, .int .i64 d0.cpu, .int .i64 d0.mem, .int .i64 d0.rank, .slice E5 d0.needs.length k5, .slice E6 d0.tolerances.length k6] 51 (0, 0)) := (hb.block (w4.heap.size) (by first | omega | (simp; try omega))).trans (heap_at (by simp))
    have Cw : Below w.heap.size w w5 := (Bw.alloc (by first | omega | (simp; try omega)) _).trans (hb.mono (by first | omega | (simp; try omega)))
    have CW : Below w3.heap.size w3 w5 := (BW.alloc (by first | omega | (simp; try omega)) _).trans (hb.mono (by first | omega | (simp; try omega)))
    have CX : Below w4.heap.size w4 w5 := (BX.alloc (by first | omega | (simp; try omega)) _).trans (hb.mono (by first | omega | (simp; try omega)))
    have TG := T5.carry (S' := fun b => w4.heap.size + 1 ≤ b ∧ b < w5.heap.size) (fun _ _ => rfl) (fun b hb => by simpa using hb)
    have CG := TG.toC (fun b hb => hb)
    clear T5
    clear RA RM Bw BW BX xA0 xA1 xA2 xA3 xA4 xA5 xA6 xM0 xM1 xM2 xM3 xM4 xM5 xAf xMf lA mA nA lM mM nM
    obtain ⟨xA0, xA1, xA2, xA3, xA4, xA5, xA6, xAf⟩ := row7 SA
    have lA := row_lt SA
    have mA := Nat.lt_succ_of_lt lA
    have nA := Nat.lt_succ_of_lt mA
    have RA := Lib.hid SA
    clear SA
    obtain ⟨xM0, xM1, xM2, xM3, xM4, xM5, xMf⟩ := row6 SM
    have lM := row_lt SM
    have mM := Nat.lt_succ_of_lt lM
    have nM := Nat.lt_succ_of_lt mM
    have RM := Lib.hid SM
    clear SM
    obtain ⟨xX0, xX1, xX2, xX3, xX4, xX5, xX6, xXf⟩ := row7 SX
    have lX := row_lt SX
    have mX := Nat.lt_succ_of_lt lX
    have nX := Nat.lt_succ_of_lt mX
    have RX := Lib.hid SX
    clear SX
    have Bw := Cw
    clear Cw
    have BW := CW
    clear CW
    have BX := CX
    clear CX
    clear hb
    have BG : Below w5.heap.size w5 w5 := Below.refl _ _
    go_wp2_with fail
    refine (all_eqTree 5 T _ _ _ _ _ (CG.now (BG.alloc (by first | omega | (simp; try omega)) _)) (CW.now (BW.alloc (by first | omega | (simp; try omega)) _))).mono ?_
    rintro e w6 ⟨rfl, hb⟩
    have z6 := hb.size
    (try simp at z6)
    have SA : w6.heap[w.heap.size]? = some (.cells #[.string d0.name, .slice A1 d0.labels.length a1, .int .i64 d0.cpu, .int .i64 d0.mem, .int .i64 d0.rank, .slice A5 d0.needs.length a5, .slice A6 d0.tolerances.length a6] 45 (0, 0)) := (hb.block (w.heap.size) (by first | omega | (simp; try omega))).trans ((Below.heap_alloc _ _ _ (by first | omega | (simp; try omega))).trans RA.out)
    have SM : w6.heap[w3.heap.size]? = some (.cells #[.int .i64 T.kind, .bool T.flag, .int .i64 T.num, .string T.text, .slice D4 T.keys.length e4, .slice D5 T.kids.length e5] 30 (0, 0)) := (hb.block (w3.heap.size) (by first | omega | (simp; try omega))).trans ((Below.heap_alloc _ _ _ (by first | omega | (simp; try omega))).trans RM.out)
    have SX : w6.heap[w4.heap.size]? = some (.cells #[.string d0.name, .slice E1 d0.labels.length k1, .int .i64 d0.cpu, .int .i64 d0.mem, .int .i64 d0.rank, .slice E5 d0.needs.length k5, .slice E6 d0.tolerances.length k6] 51 (0, 0)) := (hb.block (w4.heap.size) (by first | omega | (simp; try omega))).trans ((Below.heap_alloc _ _ _ (by first | omega | (simp; try omega))).trans RX.out)
    have SG : w6.heap[w5.heap.size]? = some (.cells #[.int .i64 T.kind, .bool T.flag, .int .i64 T.num, .string T.text, .slice G4 T.keys.length i4, .slice G5 T.kids.length i5] 30 (0, 0)) := (hb.block (w5.heap.size) (by first | omega | (simp; try omega))).trans (heap_at (by simp))
    have Cw : Below w.heap.size w w6 := (Bw.alloc (by first | omega | (simp; try omega)) _).trans (hb.mono (by first | omega | (simp; try omega)))
    have CW : Below w3.heap.size w3 w6 := (BW.alloc (by first | omega | (simp; try omega)) _).trans (hb.mono (by first | omega | (simp; try omega)))
    have CX : Below w4.heap.size w4 w6 := (BX.alloc (by first | omega | (simp; try omega)) _).trans (hb.mono (by first | omega | (simp; try omega)))
    have CG : Below w5.heap.size w5 w6 := (BG.alloc (by first | omega | (simp; try omega)) _).trans (hb.mono (by first | omega | (simp; try omega)))
    clear RA RM RX Bw BW BX BG xA0 xA1 xA2 xA3 xA4 xA5 xA6 xM0 xM1 xM2 xM3 xM4 xM5 xX0 xX1 xX2 xX3 xX4 xX5 xX6 xAf xMf xXf lA mA nA lM mM nM lX mX nX
    obtain ⟨xA0, xA1, xA2, xA3, xA4, xA5, xA6, xAf⟩ := row7 SA
    have lA := row_lt SA
    have mA := Nat.lt_succ_of_lt lA
    have nA := Nat.lt_succ_of_lt mA
    have RA := Lib.hid SA
    clear SA
    obtain ⟨xM0, xM1, xM2, xM3, xM4, xM5, xMf⟩ := row6 SM
    have lM := row_lt SM
    have mM := Nat.lt_succ_of_lt lM
    have nM := Nat.lt_succ_of_lt mM
    have RM := Lib.hid SM
    clear SM
    obtain ⟨xX0, xX1, xX2, xX3, xX4, xX5, xX6, xXf⟩ := row7 SX
    have lX := row_lt SX
    have mX := Nat.lt_succ_of_lt lX
    have nX := Nat.lt_succ_of_lt mX
    have RX := Lib.hid SX
    clear SX
    obtain ⟨xG0, xG1, xG2, xG3, xG4, xG5, xGf⟩ := row6 SG
    have lG := row_lt SG
    have mG := Nat.lt_succ_of_lt lG
    have nG := Nat.lt_succ_of_lt mG
    have RG := Lib.hid SG
    clear SG
    have Bw := Cw
    clear Cw
    have BW := CW
    clear CW
    have BX := CX
    clear CX
    have BG := CG
    clear CG
    clear hb
    go_wp2_with fail
    have CX7 := C_Pod.now CX BX
    go_region_held3 (fun w' => Below (w6).heap.size (w6) w' ∧ (∀ xb xo, xb < (w6).heap.size → w'.cell? ⟨xb, xo, none⟩ = (w6).cell? ⟨xb, xo, none⟩)) (first | exact keep_drew _ | exact keep_ext (by assumption) (by assumption) | exact keep_same (by assumption) | exact keep_alloc (by assumption) _) (first | (go_at_call 16; refine (c_laws_toPod d0 [.string d0.name, .slice A1 d0.labels.length a1, .int .i64 d0.cpu, .int .i64 d0.mem, .int .i64 d0.rank, .slice A5 d0.needs.length a5, .slice A6 d0.tolerances.length a6] _ _ (C_Pod.now HCN.out (ext_trans Bw (by first | (with_reducible exact Below.refl _ _) | exact (keep_same (by assumption)).1))) hnN).mono ?_; rintro e w8 ⟨cs8, rfl, hr8, hb8⟩; obtain ⟨y1, q1, y5, q5, y6, q6, rfl⟩ := C_Pod.open hr8) | (go_at_call 18; refine (c_laws_eqPod d0 [.string d0.name, .slice E1 d0.labels.length k1, .int .i64 d0.cpu, .int .i64 d0.mem, .int .i64 d0.rank, .slice E5 d0.needs.length k5, .slice E6 d0.tolerances.length k6] _ _ _ _ (C_Pod.now CX7 (by first | (with_reducible exact Below.refl _ _) | exact (keep_same (by assumption)).1)) (C_Pod.now hr8 (by first | exact Below.refl _ _ | exact (Below.refl _ _).drew))).mono ?_; rintro e w8 ⟨rfl, hb8⟩))
    have hb := held_step (by assumption)
    have z7 := hb.size
    (try simp at z7)
    have SA : w8.heap[w.heap.size]? = some (.cells #[.string d0.name, .slice A1 d0.labels.length a1, .int .i64 d0.cpu, .int .i64 d0.mem, .int .i64 d0.rank, .slice A5 d0.needs.length a5, .slice A6 d0.tolerances.length a6] 45 (0, 0)) := (hb.block (w.heap.size) (by first | omega | (simp; try omega))).trans RA.out
    have SM : w8.heap[w3.heap.size]? = some (.cells #[.int .i64 T.kind, .bool T.flag, .int .i64 T.num, .string T.text, .slice D4 T.keys.length e4, .slice D5 T.kids.length e5] 30 (0, 0)) := (hb.block (w3.heap.size) (by first | omega | (simp; try omega))).trans RM.out
    have SX : w8.heap[w4.heap.size]? = some (.cells #[.string d0.name, .slice E1 d0.labels.length k1, .int .i64 d0.cpu, .int .i64 d0.mem, .int .i64 d0.rank, .slice E5 d0.needs.length k5, .slice E6 d0.tolerances.length k6] 51 (0, 0)) := (hb.block (w4.heap.size) (by first | omega | (simp; try omega))).trans RX.out
    have SG : w8.heap[w5.heap.size]? = some (.cells #[.int .i64 T.kind, .bool T.flag, .int .i64 T.num, .string T.text, .slice G4 T.keys.length i4, .slice G5 T.kids.length i5] 30 (0, 0)) := (hb.block (w5.heap.size) (by first | omega | (simp; try omega))).trans RG.out
    have Cw : Below w.heap.size w w8 := Bw.trans (hb.mono (by first | omega | (simp; try omega)))
    have CW : Below w3.heap.size w3 w8 := BW.trans (hb.mono (by first | omega | (simp; try omega)))
    have CX : Below w4.heap.size w4 w8 := BX.trans (hb.mono (by first | omega | (simp; try omega)))
    have CG : Below w5.heap.size w5 w8 := BG.trans (hb.mono (by first | omega | (simp; try omega)))
    clear RA RM RX RG Bw BW BX BG xA0 xA1 xA2 xA3 xA4 xA5 xA6 xM0 xM1 xM2 xM3 xM4 xM5 xX0 xX1 xX2 xX3 xX4 xX5 xX6 xG0 xG1 xG2 xG3 xG4 xG5 xAf xMf xXf xGf lA mA nA lM mM nM lX mX nX lG mG nG
    obtain ⟨xA0, xA1, xA2, xA3, xA4, xA5, xA6, xAf⟩ := row7 SA
    have lA := row_lt SA
    have mA := Nat.lt_succ_of_lt lA
    have nA := Nat.lt_succ_of_lt mA
    have RA := Lib.hid SA
    clear SA
    obtain ⟨xM0, xM1, xM2, xM3, xM4, xM5, xMf⟩ := row6 SM
    have lM := row_lt SM
    have mM := Nat.lt_succ_of_lt lM
    have nM := Nat.lt_succ_of_lt mM
    have RM := Lib.hid SM
    clear SM
    obtain ⟨xX0, xX1, xX2, xX3, xX4, xX5, xX6, xXf⟩ := row7 SX
    have lX := row_lt SX
    have mX := Nat.lt_succ_of_lt lX
    have nX := Nat.lt_succ_of_lt mX
    have RX := Lib.hid SX
    clear SX
    obtain ⟨xG0, xG1, xG2, xG3, xG4, xG5, xGf⟩ := row6 SG
    have lG := row_lt SG
    have mG := Nat.lt_succ_of_lt lG
    have nG := Nat.lt_succ_of_lt mG
    have RG := Lib.hid SG
    clear SG
    have Bw := Cw
    clear Cw
    have BW := CW
    clear CW
    have BX := CX
    clear CX
    have BG := CG
    clear CG
    clear hb
    go_wp2_with fail
    refine (c_laws_markPod d0 _ _ _ _ (OX.carry (w' := w8) (fun b hb => BX.block b hb.2) (fun _ h => h)) (fun b hb => by omega) (by decide) (by have := HC0.out; omega)).mono ?_
    rintro e w9 ⟨l9, rfl, -, -, -, hb⟩
    have hq9 : (0 : Int) ≤ cntPod d0 := by omega
    obtain ⟨n9, hn9⟩ : ∃ n : Int, n = 1 + (cntPod d0 : Int) := ⟨_, rfl⟩
    rw [← hn9]
    have h9p : ¬ n9 < 0 := by omega
    clear hn9
    have z9 := hb.size
    have SA : w9.heap[w.heap.size]? = some (.cells #[.string d0.name, .slice A1 d0.labels.length a1, .int .i64 d0.cpu, .int .i64 d0.mem, .int .i64 d0.rank, .slice A5 d0.needs.length a5, .slice A6 d0.tolerances.length a6] 45 (0, 0)) := (hb.block (w.heap.size) (by omega) (by omega)).trans RA.out
    have SM : w9.heap[w3.heap.size]? = some (.cells #[.int .i64 T.kind, .bool T.flag, .int .i64 T.num, .string T.text, .slice D4 T.keys.length e4, .slice D5 T.kids.length e5] 30 (0, 0)) := (hb.block (w3.heap.size) (by omega) (by omega)).trans RM.out
    have SX : w9.heap[w4.heap.size]? = some (.cells #[.string d0.name, .slice E1 d0.labels.length k1, .int .i64 d0.cpu, .int .i64 d0.mem, .int .i64 d0.rank, .slice E5 d0.needs.length k5, .slice E6 d0.tolerances.length k6] 51 (0, 0)) := (hb.block (w4.heap.size) (by omega) (by omega)).trans RX.out
    have SG : w9.heap[w5.heap.size]? = some (.cells #[.int .i64 T.kind, .bool T.flag, .int .i64 T.num, .string T.text, .slice G4 T.keys.length i4, .slice G5 T.kids.length i5] 30 (0, 0)) := (hb.block (w5.heap.size) (by omega) (by omega)).trans RG.out
    have Cw : Below w.heap.size w w9 := Bw.trans (hb.below (by omega) (fun i hi => by omega))
    have CW : Below w3.heap.size w3 w9 := BW.trans (hb.below (by omega) (fun i hi => by omega))
    have TG9 := TG.carry (w' := w9) (fun b hq => (hb.block b (by omega) (by omega)).trans (BG.block b hq.2)) (fun _ h => h)
    have CG9 := TG9.toC (lo := w4.heap.size + 1) (hi := w9.heap.size) (fun b hq => ⟨hq.1, by omega⟩)
    clear TG CG CX CX7 OX
    clear RA RM RX RG Bw BW xA0 xA1 xA2 xA3 xA4 xA5 xA6 xM0 xM1 xM2 xM3 xM4 xM5 xX0 xX1 xX2 xX3 xX4 xX5 xX6 xG0 xG1 xG2 xG3 xG4 xG5 xAf xMf xXf xGf lA mA nA lM mM nM lX mX nX lG mG nG
    obtain ⟨xA0, xA1, xA2, xA3, xA4, xA5, xA6, xAf⟩ := row7 SA
    have lA := row_lt SA
    have mA := Nat.lt_succ_of_lt lA
    have nA := Nat.lt_succ_of_lt mA
    have RA := Lib.hid SA
    clear SA
    obtain ⟨xM0, xM1, xM2, xM3, xM4, xM5, xMf⟩ := row6 SM
    have lM := row_lt SM
    have mM := Nat.lt_succ_of_lt lM
    have nM := Nat.lt_succ_of_lt mM
    have RM := Lib.hid SM
    clear SM
    obtain ⟨xX0, xX1, xX2, xX3, xX4, xX5, xX6, xXf⟩ := row7 SX
    have lX := row_lt SX
    have mX := Nat.lt_succ_of_lt lX
    have nX := Nat.lt_succ_of_lt mX
    have RX := Lib.hid SX
    clear SX
    obtain ⟨xG0, xG1, xG2, xG3, xG4, xG5, xGf⟩ := row6 SG
    have lG := row_lt SG
    have mG := Nat.lt_succ_of_lt lG
    have nG := Nat.lt_succ_of_lt mG
    have RG := Lib.hid SG
    clear SG
    have Bw := Cw
    clear Cw
    have BW := CW
    clear CW
    clear hb
    go_wp2_with fail
    refine (all_eqTree 5 T _ _ _ _ _ CG9 (CW.now BW)).mono ?_
    rintro e w10 ⟨rfl, hb⟩
    have z10 := hb.size
    (try simp at z10)
    have SA : w10.heap[w.heap.size]? = some (.cells #[.string d0.name, .slice A1 d0.labels.length a1, .int .i64 d0.cpu, .int .i64 d0.mem, .int .i64 d0.rank, .slice A5 d0.needs.length a5, .slice A6 d0.tolerances.length a6] 45 (0, 0)) := (hb.block (w.heap.size) (by first | omega | (simp; try omega))).trans RA.out
    have SM : w10.heap[w3.heap.size]? = some (.cells #[.int .i64 T.kind, .bool T.flag, .int .i64 T.num, .string T.text, .slice D4 T.keys.length e4, .slice D5 T.kids.length e5] 30 (0, 0)) := (hb.block (w3.heap.size) (by first | omega | (simp; try omega))).trans RM.out
    have SX : w10.heap[w4.heap.size]? = some (.cells #[.string d0.name, .slice E1 d0.labels.length k1, .int .i64 d0.cpu, .int .i64 d0.mem, .int .i64 d0.rank, .slice E5 d0.needs.length k5, .slice E6 d0.tolerances.length k6] 51 (0, 0)) := (hb.block (w4.heap.size) (by first | omega | (simp; try omega))).trans RX.out
    have SG : w10.heap[w5.heap.size]? = some (.cells #[.int .i64 T.kind, .bool T.flag, .int .i64 T.num, .string T.text, .slice G4 T.keys.length i4, .slice G5 T.kids.length i5] 30 (0, 0)) := (hb.block (w5.heap.size) (by first | omega | (simp; try omega))).trans RG.out
    have Cw : Below w.heap.size w w10 := Bw.trans (hb.mono (by first | omega | (simp; try omega)))
    have CW : Below w3.heap.size w3 w10 := BW.trans (hb.mono (by first | omega | (simp; try omega)))
    have TG10 := TG9.carry (w' := w10) (fun b hq => hb.block b (by omega)) (fun _ h => h)
    clear TG9 CG9
    clear RA RM RX RG Bw BW xA0 xA1 xA2 xA3 xA4 xA5 xA6 xM0 xM1 xM2 xM3 xM4 xM5 xX0 xX1 xX2 xX3 xX4 xX5 xX6 xG0 xG1 xG2 xG3 xG4 xG5 xAf xMf xXf xGf lA mA nA lM mM nM lX mX nX lG mG nG
    obtain ⟨xA0, xA1, xA2, xA3, xA4, xA5, xA6, xAf⟩ := row7 SA
    have lA := row_lt SA
    have mA := Nat.lt_succ_of_lt lA
    have nA := Nat.lt_succ_of_lt mA
    have RA := Lib.hid SA
    clear SA
    obtain ⟨xM0, xM1, xM2, xM3, xM4, xM5, xMf⟩ := row6 SM
    have lM := row_lt SM
    have mM := Nat.lt_succ_of_lt lM
    have nM := Nat.lt_succ_of_lt mM
    have RM := Lib.hid SM
    clear SM
    obtain ⟨xX0, xX1, xX2, xX3, xX4, xX5, xX6, xXf⟩ := row7 SX
    have lX := row_lt SX
    have mX := Nat.lt_succ_of_lt lX
    have nX := Nat.lt_succ_of_lt mX
    have RX := Lib.hid SX
    clear SX
    obtain ⟨xG0, xG1, xG2, xG3, xG4, xG5, xGf⟩ := row6 SG
    have lG := row_lt SG
    have mG := Nat.lt_succ_of_lt lG
    have nG := Nat.lt_succ_of_lt mG
    have RG := Lib.hid SG
    clear SG
    have Bw := Cw
    clear Cw
    have BW := CW
    clear CW
    clear hb
    go_wp2_with fail
    refine (all_mark 5 T _ _ _ _ TG10 (fun b hb => by omega) (by decide) (by have := HC.out; omega)).mono ?_
    rintro e w11 ⟨g0d, rfl, TG11, MG, EG, hb⟩
    have z11 := hb.size
    have SA : w11.heap[w.heap.size]? = some (.cells #[.string d0.name, .slice A1 d0.labels.length a1, .int .i64 d0.cpu, .int .i64 d0.mem, .int .i64 d0.rank, .slice A5 d0.needs.length a5, .slice A6 d0.tolerances.length a6] 45 (0, 0)) := (hb.block (w.heap.size) (by omega) (by omega)).trans RA.out
    have SM : w11.heap[w3.heap.size]? = some (.cells #[.int .i64 T.kind, .bool T.flag, .int .i64 T.num, .string T.text, .slice D4 T.keys.length e4, .slice D5 T.kids.length e5] 30 (0, 0)) := (hb.block (w3.heap.size) (by omega) (by omega)).trans RM.out
    have SX : w11.heap[w4.heap.size]? = some (.cells #[.string d0.name, .slice E1 d0.labels.length k1, .int .i64 d0.cpu, .int .i64 d0.mem, .int .i64 d0.rank, .slice E5 d0.needs.length k5, .slice E6 d0.tolerances.length k6] 51 (0, 0)) := (hb.block (w4.heap.size) (by omega) (by omega)).trans RX.out
    have SG : w11.heap[w5.heap.size]? = some (.cells #[.int .i64 T.kind, .bool T.flag, .int .i64 T.num, .string T.text, .slice G4 T.keys.length i4, .slice G5 T.kids.length i5] 30 (0, 0)) := (hb.block (w5.heap.size) (by omega) (by omega)).trans RG.out
    have Cw : Below w.heap.size w w11 := Bw.trans (hb.below (by omega) (fun i hi => by omega))
    have CW : Below w3.heap.size w3 w11 := BW.trans (hb.below (by omega) (fun i hi => by omega))
    have CG11 := TG11.toC (lo := w4.heap.size + 1) (hi := w11.heap.size) (fun b hq => ⟨hq.1, by omega⟩)
    have HE := Lib.hid EG
    have HM := Lib.hid MG
    clear TG10 TG11 EG MG
    clear RA RM RX RG Bw BW xA0 xA1 xA2 xA3 xA4 xA5 xA6 xM0 xM1 xM2 xM3 xM4 xM5 xX0 xX1 xX2 xX3 xX4 xX5 xX6 xG0 xG1 xG2 xG3 xG4 xG5 xAf xMf xXf xGf lA mA nA lM mM nM lX mX nX lG mG nG
    obtain ⟨xA0, xA1, xA2, xA3, xA4, xA5, xA6, xAf⟩ := row7 SA
    have lA := row_lt SA
    have mA := Nat.lt_succ_of_lt lA
    have nA := Nat.lt_succ_of_lt mA
    have RA := Lib.hid SA
    clear SA
    obtain ⟨xM0, xM1, xM2, xM3, xM4, xM5, xMf⟩ := row6 SM
    have lM := row_lt SM
    have mM := Nat.lt_succ_of_lt lM
    have nM := Nat.lt_succ_of_lt mM
    have RM := Lib.hid SM
    clear SM
    obtain ⟨xX0, xX1, xX2, xX3, xX4, xX5, xX6, xXf⟩ := row7 SX
    have lX := row_lt SX
    have mX := Nat.lt_succ_of_lt lX
    have nX := Nat.lt_succ_of_lt mX
    have RX := Lib.hid SX
    clear SX
    obtain ⟨xG0, xG1, xG2, xG3, xG4, xG5, xGf⟩ := row6 SG
    have lG := row_lt SG
    have mG := Nat.lt_succ_of_lt lG
    have nG := Nat.lt_succ_of_lt mG
    have RG := Lib.hid SG
    clear SG
    have Bw := Cw
    clear Cw
    have BW := CW
    clear CW
    clear hb
    have BD : Below w11.heap.size w11 w11 := Below.refl _ _
    obtain ⟨cg, hcg⟩ : ∃ cg : Int, cg = (cntT 5 T : Int) := ⟨_, rfl⟩
    have Hcg := Lib.hid hcg
    have hcg0 : 0 ≤ cg := by omega
    have hcg1 : cg ≤ 4194304 := by have := HC.out; omega
    rw [← hcg]
    clear hcg
    go_wp2_with fail
    refine (c_laws_heldTree 5 g0d _ _ _ _ CG11 HM.out (by decide) (by have := HE.out; have := Hcg.out; omega)).mono ?_
    rintro e w12 ⟨rfl, hb⟩
    rw [HE.out, ← Hcg.out]
    have z12 := hb.size
    (try simp at z12)
    have SA : w12.heap[w.heap.size]? = some (.cells #[.string d0.name, .slice A1 d0.labels.length a1, .int .i64 d0.cpu, .int .i64 d0.mem, .int .i64 d0.rank, .slice A5 d0.needs.length a5, .slice A6 d0.tolerances.length a6] 45 (0, 0)) := (hb.block (w.heap.size) (by first | omega | (simp; try omega))).trans RA.out
    have SM : w12.heap[w3.heap.size]? = some (.cells #[.int .i64 T.kind, .bool T.flag, .int .i64 T.num, .string T.text, .slice D4 T.keys.length e4, .slice D5 T.kids.length e5] 30 (0, 0)) := (hb.block (w3.heap.size) (by first | omega | (simp; try omega))).trans RM.out
    have SX : w12.heap[w4.heap.size]? = some (.cells #[.string d0.name, .slice E1 d0.labels.length k1, .int .i64 d0.cpu, .int .i64 d0.mem, .int .i64 d0.rank, .slice E5 d0.needs.length k5, .slice E6 d0.tolerances.length k6] 51 (0, 0)) := (hb.block (w4.heap.size) (by first | omega | (simp; try omega))).trans RX.out
    have SG : w12.heap[w5.heap.size]? = some (.cells #[.int .i64 T.kind, .bool T.flag, .int .i64 T.num, .string T.text, .slice G4 T.keys.length i4, .slice G5 T.kids.length i5] 30 (0, 0)) := (hb.block (w5.heap.size) (by first | omega | (simp; try omega))).trans RG.out
    have Cw : Below w.heap.size w w12 := Bw.trans (hb.mono (by first | omega | (simp; try omega)))
    have CW : Below w3.heap.size w3 w12 := BW.trans (hb.mono (by first | omega | (simp; try omega)))
    have CD : Below w11.heap.size w11 w12 := BD.trans (hb.mono (by first | omega | (simp; try omega)))
    clear RA RM RX RG Bw BW BD xA0 xA1 xA2 xA3 xA4 xA5 xA6 xM0 xM1 xM2 xM3 xM4 xM5 xX0 xX1 xX2 xX3 xX4 xX5 xX6 xG0 xG1 xG2 xG3 xG4 xG5 xAf xMf xXf xGf lA mA nA lM mM nM lX mX nX lG mG nG
    obtain ⟨xA0, xA1, xA2, xA3, xA4, xA5, xA6, xAf⟩ := row7 SA
    have lA := row_lt SA
    have mA := Nat.lt_succ_of_lt lA
    have nA := Nat.lt_succ_of_lt mA
    have RA := Lib.hid SA
    clear SA
    obtain ⟨xM0, xM1, xM2, xM3, xM4, xM5, xMf⟩ := row6 SM
    have lM := row_lt SM
    have mM := Nat.lt_succ_of_lt lM
    have nM := Nat.lt_succ_of_lt mM
    have RM := Lib.hid SM
    clear SM
    obtain ⟨xX0, xX1, xX2, xX3, xX4, xX5, xX6, xXf⟩ := row7 SX
    have lX := row_lt SX
    have mX := Nat.lt_succ_of_lt lX
    have nX := Nat.lt_succ_of_lt mX
    have RX := Lib.hid SX
    clear SX
    obtain ⟨xG0, xG1, xG2, xG3, xG4, xG5, xGf⟩ := row6 SG
    have lG := row_lt SG
    have mG := Nat.lt_succ_of_lt lG
    have nG := Nat.lt_succ_of_lt mG
    have RG := Lib.hid SG
    clear SG
    have Bw := Cw
    clear Cw
    have BW := CW
    clear CW
    have BD := CD
    clear CD
    clear hb
    go_wp2_with fail
    refine (c_laws_toPod d0 [.string d0.name, .slice A1 d0.labels.length a1, .int .i64 d0.cpu, .int .i64 d0.mem, .int .i64 d0.rank, .slice A5 d0.needs.length a5, .slice A6 d0.tolerances.length a6] _ _ (C_Pod.now HCN.out Bw) hnN).mono ?_
    rintro e w13 ⟨cs13, rfl, hr13, hb⟩
    obtain ⟨U1, u1, U5, u5, U6, u6, rfl⟩ := C_Pod.open hr13
    have z13 := hb.size
    (try simp at z13)
    have SA : w13.heap[w.heap.size]? = some (.cells #[.string d0.name, .slice A1 d0.labels.length a1, .int .i64 d0.cpu, .int .i64 d0.mem, .int .i64 d0.rank, .slice A5 d0.needs.length a5, .slice A6 d0.tolerances.length a6] 45 (0, 0)) := (hb.block (w.heap.size) (by first | omega | (simp; try omega))).trans RA.out
    have SM : w13.heap[w3.heap.size]? = some (.cells #[.int .i64 T.kind, .bool T.flag, .int .i64 T.num, .string T.text, .slice D4 T.keys.length e4, .slice D5 T.kids.length e5] 30 (0, 0)) := (hb.block (w3.heap.size) (by first | omega | (simp; try omega))).trans RM.out
    have SX : w13.heap[w4.heap.size]? = some (.cells #[.string d0.name, .slice E1 d0.labels.length k1, .int .i64 d0.cpu, .int .i64 d0.mem, .int .i64 d0.rank, .slice E5 d0.needs.length k5, .slice E6 d0.tolerances.length k6] 51 (0, 0)) := (hb.block (w4.heap.size) (by first | omega | (simp; try omega))).trans RX.out
    have SG : w13.heap[w5.heap.size]? = some (.cells #[.int .i64 T.kind, .bool T.flag, .int .i64 T.num, .string T.text, .slice G4 T.keys.length i4, .slice G5 T.kids.length i5] 30 (0, 0)) := (hb.block (w5.heap.size) (by first | omega | (simp; try omega))).trans RG.out
    have Cw : Below w.heap.size w w13 := Bw.trans (hb.mono (by first | omega | (simp; try omega)))
    have CW : Below w3.heap.size w3 w13 := BW.trans (hb.mono (by first | omega | (simp; try omega)))
    have CD : Below w11.heap.size w11 w13 := BD.trans (hb.mono (by first | omega | (simp; try omega)))
    clear RA RM RX RG Bw BW BD xA0 xA1 xA2 xA3 xA4 xA5 xA6 xM0 xM1 xM2 xM3 xM4 xM5 xX0 xX1 xX2 xX3 xX4 xX5 xX6 xG0 xG1 xG2 xG3 xG4 xG5 xAf xMf xXf xGf lA mA nA lM mM nM lX mX nX lG mG nG
    obtain ⟨xA0, xA1, xA2, xA3, xA4, xA5, xA6, xAf⟩ := row7 SA
    have lA := row_lt SA
    have mA := Nat.lt_succ_of_lt lA
    have nA := Nat.lt_succ_of_lt mA
    have RA := Lib.hid SA
    clear SA
    obtain ⟨xM0, xM1, xM2, xM3, xM4, xM5, xMf⟩ := row6 SM
    have lM := row_lt SM
    have mM := Nat.lt_succ_of_lt lM
    have nM := Nat.lt_succ_of_lt mM
    have RM := Lib.hid SM
    clear SM
    obtain ⟨xX0, xX1, xX2, xX3, xX4, xX5, xX6, xXf⟩ := row7 SX
    have lX := row_lt SX
    have mX := Nat.lt_succ_of_lt lX
    have nX := Nat.lt_succ_of_lt mX
    have RX := Lib.hid SX
    clear SX
    obtain ⟨xG0, xG1, xG2, xG3, xG4, xG5, xGf⟩ := row6 SG
    have lG := row_lt SG
    have mG := Nat.lt_succ_of_lt lG
    have nG := Nat.lt_succ_of_lt mG
    have RG := Lib.hid SG
    clear SG
    have Bw := Cw
    clear Cw
    have BW := CW
    clear CW
    have BD := CD
    clear CD
    clear hb
    go_wp2_with fail
    refine (c_impl_PodTree 0 d0 _ _ _ hr13 (Hp.out.below Bw)).mono ?_
    rintro e w14 ⟨cs14, rfl, T14, hb⟩
    rw [← HT.out] at T14
    obtain ⟨Q4, r4, Q5, r5, rfl, -⟩ := T14.flat
    have z14 := hb.size
    (try simp at z14)
    have SA : w14.heap[w.heap.size]? = some (.cells #[.string d0.name, .slice A1 d0.labels.length a1, .int .i64 d0.cpu, .int .i64 d0.mem, .int .i64 d0.rank, .slice A5 d0.needs.length a5, .slice A6 d0.tolerances.length a6] 45 (0, 0)) := (hb.block (w.heap.size) (by first | omega | (simp; try omega))).trans RA.out
    have SM : w14.heap[w3.heap.size]? = some (.cells #[.int .i64 T.kind, .bool T.flag, .int .i64 T.num, .string T.text, .slice D4 T.keys.length e4, .slice D5 T.kids.length e5] 30 (0, 0)) := (hb.block (w3.heap.size) (by first | omega | (simp; try omega))).trans RM.out
    have SX : w14.heap[w4.heap.size]? = some (.cells #[.string d0.name, .slice E1 d0.labels.length k1, .int .i64 d0.cpu, .int .i64 d0.mem, .int .i64 d0.rank, .slice E5 d0.needs.length k5, .slice E6 d0.tolerances.length k6] 51 (0, 0)) := (hb.block (w4.heap.size) (by first | omega | (simp; try omega))).trans RX.out
    have SG : w14.heap[w5.heap.size]? = some (.cells #[.int .i64 T.kind, .bool T.flag, .int .i64 T.num, .string T.text, .slice G4 T.keys.length i4, .slice G5 T.kids.length i5] 30 (0, 0)) := (hb.block (w5.heap.size) (by first | omega | (simp; try omega))).trans RG.out
    have Cw : Below w.heap.size w w14 := Bw.trans (hb.mono (by first | omega | (simp; try omega)))
    have CW : Below w3.heap.size w3 w14 := BW.trans (hb.mono (by first | omega | (simp; try omega)))
    have CD : Below w11.heap.size w11 w14 := BD.trans (hb.mono (by first | omega | (simp; try omega)))
    have CH := T14.toC (fun b hb => hb)
    clear T14
    clear RA RM RX RG Bw BW BD xA0 xA1 xA2 xA3 xA4 xA5 xA6 xM0 xM1 xM2 xM3 xM4 xM5 xX0 xX1 xX2 xX3 xX4 xX5 xX6 xG0 xG1 xG2 xG3 xG4 xG5 xAf xMf xXf xGf lA mA nA lM mM nM lX mX nX lG mG nG
    obtain ⟨xA0, xA1, xA2, xA3, xA4, xA5, xA6, xAf⟩ := row7 SA
    have lA := row_lt SA
    have mA := Nat.lt_succ_of_lt lA
    have nA := Nat.lt_succ_of_lt mA
    have RA := Lib.hid SA
    clear SA
    obtain ⟨xM0, xM1, xM2, xM3, xM4, xM5, xMf⟩ := row6 SM
    have lM := row_lt SM
    have mM := Nat.lt_succ_of_lt lM
    have nM := Nat.lt_succ_of_lt mM
    have RM := Lib.hid SM
    clear SM
    obtain ⟨xX0, xX1, xX2, xX3, xX4, xX5, xX6, xXf⟩ := row7 SX
    have lX := row_lt SX
    have mX := Nat.lt_succ_of_lt lX
    have nX := Nat.lt_succ_of_lt mX
    have RX := Lib.hid SX
    clear SX
    obtain ⟨xG0, xG1, xG2, xG3, xG4, xG5, xGf⟩ := row6 SG
    have lG := row_lt SG
    have mG := Nat.lt_succ_of_lt lG
    have nG := Nat.lt_succ_of_lt mG
    have RG := Lib.hid SG
    clear SG
    have Bw := Cw
    clear Cw
    have BW := CW
    clear CW
    have BD := CD
    clear CD
    clear hb
    go_wp2_with fail
    refine (all_eqTree 5 T _ _ _ _ _ (CH.now ((Below.refl _ _).alloc (Nat.le_refl _) _)) (CW.now (BW.alloc (by first | omega | (simp; try omega)) _))).mono ?_
    rintro e w15 ⟨rfl, hb⟩
    have z15 := hb.size
    (try simp at z15)
    have SA : w15.heap[w.heap.size]? = some (.cells #[.string d0.name, .slice A1 d0.labels.length a1, .int .i64 d0.cpu, .int .i64 d0.mem, .int .i64 d0.rank, .slice A5 d0.needs.length a5, .slice A6 d0.tolerances.length a6] 45 (0, 0)) := (hb.block (w.heap.size) (by first | omega | (simp; try omega))).trans ((Below.heap_alloc _ _ _ (by first | omega | (simp; try omega))).trans RA.out)
    have SM : w15.heap[w3.heap.size]? = some (.cells #[.int .i64 T.kind, .bool T.flag, .int .i64 T.num, .string T.text, .slice D4 T.keys.length e4, .slice D5 T.kids.length e5] 30 (0, 0)) := (hb.block (w3.heap.size) (by first | omega | (simp; try omega))).trans ((Below.heap_alloc _ _ _ (by first | omega | (simp; try omega))).trans RM.out)
    have SX : w15.heap[w4.heap.size]? = some (.cells #[.string d0.name, .slice E1 d0.labels.length k1, .int .i64 d0.cpu, .int .i64 d0.mem, .int .i64 d0.rank, .slice E5 d0.needs.length k5, .slice E6 d0.tolerances.length k6] 51 (0, 0)) := (hb.block (w4.heap.size) (by first | omega | (simp; try omega))).trans ((Below.heap_alloc _ _ _ (by first | omega | (simp; try omega))).trans RX.out)
    have SG : w15.heap[w5.heap.size]? = some (.cells #[.int .i64 T.kind, .bool T.flag, .int .i64 T.num, .string T.text, .slice G4 T.keys.length i4, .slice G5 T.kids.length i5] 30 (0, 0)) := (hb.block (w5.heap.size) (by first | omega | (simp; try omega))).trans ((Below.heap_alloc _ _ _ (by first | omega | (simp; try omega))).trans RG.out)
    have SP : w15.heap[w14.heap.size]? = some (.cells #[.int .i64 T.kind, .bool T.flag, .int .i64 T.num, .string T.text, .slice Q4 T.keys.length r4, .slice Q5 T.kids.length r5] 30 (0, 0)) := (hb.block (w14.heap.size) (by first | omega | (simp; try omega))).trans (heap_at (by simp))
    have Cw : Below w.heap.size w w15 := (Bw.alloc (by first | omega | (simp; try omega)) _).trans (hb.mono (by first | omega | (simp; try omega)))
    have CW : Below w3.heap.size w3 w15 := (BW.alloc (by first | omega | (simp; try omega)) _).trans (hb.mono (by first | omega | (simp; try omega)))
    have CD : Below w11.heap.size w11 w15 := (BD.alloc (by first | omega | (simp; try omega)) _).trans (hb.mono (by first | omega | (simp; try omega)))
    clear RA RM RX RG Bw BW BD xA0 xA1 xA2 xA3 xA4 xA5 xA6 xM0 xM1 xM2 xM3 xM4 xM5 xX0 xX1 xX2 xX3 xX4 xX5 xX6 xG0 xG1 xG2 xG3 xG4 xG5 xAf xMf xXf xGf lA mA nA lM mM nM lX mX nX lG mG nG
    obtain ⟨xA0, xA1, xA2, xA3, xA4, xA5, xA6, xAf⟩ := row7 SA
    have lA := row_lt SA
    have mA := Nat.lt_succ_of_lt lA
    have nA := Nat.lt_succ_of_lt mA
    have RA := Lib.hid SA
    clear SA
    obtain ⟨xM0, xM1, xM2, xM3, xM4, xM5, xMf⟩ := row6 SM
    have lM := row_lt SM
    have mM := Nat.lt_succ_of_lt lM
    have nM := Nat.lt_succ_of_lt mM
    have RM := Lib.hid SM
    clear SM
    obtain ⟨xX0, xX1, xX2, xX3, xX4, xX5, xX6, xXf⟩ := row7 SX
    have lX := row_lt SX
    have mX := Nat.lt_succ_of_lt lX
    have nX := Nat.lt_succ_of_lt mX
    have RX := Lib.hid SX
    clear SX
    obtain ⟨xG0, xG1, xG2, xG3, xG4, xG5, xGf⟩ := row6 SG
    have lG := row_lt SG
    have mG := Nat.lt_succ_of_lt lG
    have nG := Nat.lt_succ_of_lt mG
    have RG := Lib.hid SG
    clear SG
    obtain ⟨xP0, xP1, xP2, xP3, xP4, xP5, xPf⟩ := row6 SP
    have lP := row_lt SP
    have mP := Nat.lt_succ_of_lt lP
    have nP := Nat.lt_succ_of_lt mP
    have RP := Lib.hid SP
    clear SP
    have Bw := Cw
    clear Cw
    have BW := CW
    clear CW
    have BD := CD
    clear CD
    clear hb
    go_wp2_with fail
    refine (c_laws_heldTree 5 g0d _ _ _ _ (CG11.now BD) HM.out (by decide) (by have := HE.out; have := Hcg.out; omega)).mono ?_
    rintro e w16 ⟨rfl, hb⟩
    rw [HE.out, ← Hcg.out]
    have z16 := hb.size
    (try simp at z16)
    have SA : w16.heap[w.heap.size]? = some (.cells #[.string d0.name, .slice A1 d0.labels.length a1, .int .i64 d0.cpu, .int .i64 d0.mem, .int .i64 d0.rank, .slice A5 d0.needs.length a5, .slice A6 d0.tolerances.length a6] 45 (0, 0)) := (hb.block (w.heap.size) (by first | omega | (simp; try omega))).trans RA.out
    have SM : w16.heap[w3.heap.size]? = some (.cells #[.int .i64 T.kind, .bool T.flag, .int .i64 T.num, .string T.text, .slice D4 T.keys.length e4, .slice D5 T.kids.length e5] 30 (0, 0)) := (hb.block (w3.heap.size) (by first | omega | (simp; try omega))).trans RM.out
    have SX : w16.heap[w4.heap.size]? = some (.cells #[.string d0.name, .slice E1 d0.labels.length k1, .int .i64 d0.cpu, .int .i64 d0.mem, .int .i64 d0.rank, .slice E5 d0.needs.length k5, .slice E6 d0.tolerances.length k6] 51 (0, 0)) := (hb.block (w4.heap.size) (by first | omega | (simp; try omega))).trans RX.out
    have SG : w16.heap[w5.heap.size]? = some (.cells #[.int .i64 T.kind, .bool T.flag, .int .i64 T.num, .string T.text, .slice G4 T.keys.length i4, .slice G5 T.kids.length i5] 30 (0, 0)) := (hb.block (w5.heap.size) (by first | omega | (simp; try omega))).trans RG.out
    have SP : w16.heap[w14.heap.size]? = some (.cells #[.int .i64 T.kind, .bool T.flag, .int .i64 T.num, .string T.text, .slice Q4 T.keys.length r4, .slice Q5 T.kids.length r5] 30 (0, 0)) := (hb.block (w14.heap.size) (by first | omega | (simp; try omega))).trans RP.out
    have Cw : Below w.heap.size w w16 := Bw.trans (hb.mono (by first | omega | (simp; try omega)))
    have CW : Below w3.heap.size w3 w16 := BW.trans (hb.mono (by first | omega | (simp; try omega)))
    have CD : Below w11.heap.size w11 w16 := BD.trans (hb.mono (by first | omega | (simp; try omega)))
    clear RA RM RX RG RP Bw BW BD xA0 xA1 xA2 xA3 xA4 xA5 xA6 xM0 xM1 xM2 xM3 xM4 xM5 xX0 xX1 xX2 xX3 xX4 xX5 xX6 xG0 xG1 xG2 xG3 xG4 xG5 xP0 xP1 xP2 xP3 xP4 xP5 xAf xMf xXf xGf xPf lA mA nA lM mM nM lX mX nX lG mG nG lP mP nP
    obtain ⟨xA0, xA1, xA2, xA3, xA4, xA5, xA6, xAf⟩ := row7 SA
    have lA := row_lt SA
    have mA := Nat.lt_succ_of_lt lA
    have nA := Nat.lt_succ_of_lt mA
    have RA := Lib.hid SA
    clear SA
    obtain ⟨xM0, xM1, xM2, xM3, xM4, xM5, xMf⟩ := row6 SM
    have lM := row_lt SM
    have mM := Nat.lt_succ_of_lt lM
    have nM := Nat.lt_succ_of_lt mM
    have RM := Lib.hid SM
    clear SM
    obtain ⟨xX0, xX1, xX2, xX3, xX4, xX5, xX6, xXf⟩ := row7 SX
    have lX := row_lt SX
    have mX := Nat.lt_succ_of_lt lX
    have nX := Nat.lt_succ_of_lt mX
    have RX := Lib.hid SX
    clear SX
    obtain ⟨xG0, xG1, xG2, xG3, xG4, xG5, xGf⟩ := row6 SG
    have lG := row_lt SG
    have mG := Nat.lt_succ_of_lt lG
    have nG := Nat.lt_succ_of_lt mG
    have RG := Lib.hid SG
    clear SG
    obtain ⟨xP0, xP1, xP2, xP3, xP4, xP5, xPf⟩ := row6 SP
    have lP := row_lt SP
    have mP := Nat.lt_succ_of_lt lP
    have nP := Nat.lt_succ_of_lt mP
    have RP := Lib.hid SP
    clear SP
    have Bw := Cw
    clear Cw
    have BW := CW
    clear CW
    have BD := CD
    clear CD
    clear hb
    go_wp2_with fail
    go_ret
    exact ⟨rfl, Bw⟩
  · have hz := szI_neg hq
    have hz2 : szI 1048576 (nPod d0) < 0 := by omega
    clear hz
    go_enter Tryz.func4, Tryz.ntmps4
    go_wp2_with (go_at_call 14; refine (c_laws_szPod d0 [.string d0.name, .slice A1 d0.labels.length a1, .int .i64 d0.cpu, .int .i64 d0.mem, .int .i64 d0.rank, .slice A5 d0.needs.length a5, .slice A6 d0.tolerances.length a6] _ _ _ (C_Pod.now hC bel) (by omega) (by omega)).mono ?_; rintro e w1 ⟨rfl, hb⟩)
    go_ret
    exact ⟨rfl, bel⟩
end Go.Proofs.YteecgklmdfockaaGreatDoor
