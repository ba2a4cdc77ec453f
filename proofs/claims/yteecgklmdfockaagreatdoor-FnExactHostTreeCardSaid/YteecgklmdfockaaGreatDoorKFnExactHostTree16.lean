/- Written by wip/tools/pack.py: the texts that FnExactHostTree needs, without what it does not need. No conditions. -/
import Derived.Test.YteecgklmdfockaaGreatDoorKFnExactHostTree14
import Derived.Test.YteecgklmdfockaaGreatDoorKFnExactHostTree15
namespace Go.Proofs.YteecgklmdfockaaGreatDoor
open Go.RowKit
theorem cnt_leafD (n : Nat) (t : ByteArray) : cntT (n + 1) (leafD t) = 0 := by rw [cntT_succ]; rfl
theorem cnt_intD (n : Nat) (x : Int) : cntT (n + 1) (intD x) = 0 := by rw [cntT_succ]; rfl
theorem cntL_bound (n B : Nat) : ∀ (l : List TreeD), (∀ t ∈ l, cntT n t ≤ B) → cntL n l ≤ l.length * (4 + B)
  | [], _ => by unfold cntL; simp [szL]
  | t :: l, h => by
    have ih := cntL_bound n B l (fun y hy => h y (by simp [hy]))
    have hx := h t (by simp)
    have e : cntL n (t :: l) = 4 + cntT n t + cntL n l := rfl
    rw [e, List.length_cons, Nat.succ_mul]
    omega
theorem cnt_pairD (n : Nat) (ks ts : List ByteArray) : cntT (n + 2) (pairT ks ts) ≤ ks.length + ts.length * 4 := by
  rw [cntT_succ]
  have h := cntL_bound (n + 1) 0 (ts.map leafD) (by intro t ht; obtain ⟨x, -, rfl⟩ := List.mem_map.1 ht; rw [cnt_leafD]; exact Nat.le_refl _)
  rw [List.length_map] at h
  exact Nat.add_le_add_left h ks.length
theorem cnt_tree0 (n : Nat) : cntT (n + 1) tree0 = 0 := by rw [cntT_succ]; rfl
theorem cnt_lab (n : Nat) (l : List Label) : cntT (n + 2) (labelsT l) ≤ 40 := by
  unfold labelsT
  split
  · rename_i h
    have h1 := labels_short h
    have h2 := cnt_pairD n (l.map Label.key) (l.map Label.value)
    simp only [List.length_map] at h2
    omega
  · have h2 := cnt_pairD n [] []
    simp at h2
    omega
theorem optL_len (b : Bool) (s : ByteArray) : (optL b s).length ≤ 1 := by unfold optL; split <;> simp
theorem cnt_taint (n : Nat) (d : Taint) : cntT (n + 2) (taintTD d) ≤ 20 := by
  unfold taintTD taintT
  split
  · refine Nat.le_trans (cnt_pairD n _ _) ?_
    have h1 := optL_len (!d.value.toList.isEmpty) wValue
    have h2 := optL_len (!d.value.toList.isEmpty) d.value
    simp only [List.length_append, List.length_cons, List.length_nil]
    omega
  · rw [cnt_tree0]; omega
theorem cnt_lst (n B : Nat) (l : List TreeD) (h : ∀ t ∈ l, cntT n t ≤ B) (hl : l.length ≤ 4) (hB : B ≤ 100) : cntT (n + 1) (lstD l) ≤ 500 := by
  rw [cntT_succ]
  have h1 := cntL_bound n B l h
  have h2 : l.length * (4 + B) ≤ 4 * (4 + B) := Nat.mul_le_mul_right _ hl
  show 0 + cntL n l ≤ 500
  omega
theorem head_kids (n : Nat) (kind name : ByteArray) (l : List Label) (cpu mem : Int) : ∀ t ∈ headT kind name l cpu mem, cntT (n + 2) t ≤ 500 := by
  intro t ht
  unfold headT optD at ht
  have hl := cnt_lab n l
  split at ht <;> simp at ht
  · rcases ht with rfl | rfl | rfl | rfl | rfl
    · rw [cnt_leafD]; omega
    · rw [cnt_leafD]; omega
    · omega
    · rw [cnt_leafD]; omega
    · rw [cnt_leafD]; omega
  · rcases ht with rfl | rfl | rfl | rfl
    · rw [cnt_leafD]; omega
    · rw [cnt_leafD]; omega
    · rw [cnt_leafD]; omega
    · rw [cnt_leafD]; omega
theorem optD_kids (n B : Nat) (b : Bool) (d : TreeD) (h : cntT n d ≤ B) : ∀ t ∈ optD b d, cntT n t ≤ B := by
  intro t ht
  unfold optD at ht
  split at ht
  · simp at ht; subst ht; exact h
  · cases ht
theorem optD_len (b : Bool) (d : TreeD) : (optD b d).length ≤ 1 := by unfold optD; split <;> simp
theorem cnt_hostT (d : Host) : cntT 4 (hostT d) ≤ 4194304 := by
  unfold hostT
  split
  · rename_i h
    rw [cntT_succ]
    have hk : (hostKs d).length ≤ 10 := by
      unfold hostKs
      have h0 := headK_len d.labels
      have h1 := optK_len (d.slots != 20) hSlots
      have h2 := optK_len (!d.taints.isEmpty) hTaints
      simp only [List.length_append]
      omega
    have hl : (hostTs d).length ≤ 10 := by
      unfold hostTs
      have h0 := headKT ⟨#[104, 111, 115, 116]⟩ d.name d.labels d.cpu d.mem
      have h9 := headK_len d.labels
      have h1 := optD_len (d.slots != 20) (intD d.slots)
      have h2 := optD_len (!d.taints.isEmpty) (lstD (d.taints.map taintTD))
      simp only [List.length_append]
      omega
    have hB := cntL_bound 3 500 (hostTs d) (by
      intro t ht
      unfold hostTs at ht
      simp only [List.mem_append] at ht
      rcases ht with (ht | ht) | ht
      · exact head_kids 1 _ _ _ _ _ t ht
      · exact optD_kids 3 500 _ _ (by rw [cnt_intD]; omega) t ht
      · exact optD_kids 3 500 _ _ (by exact cnt_lst 2 20 _ (by intro t ht; obtain ⟨x, -, rfl⟩ := List.mem_map.1 ht; exact cnt_taint 0 x) (by rw [List.length_map]; unfold hostB taintsB at h; simp only [Bool.and_eq_true, decide_eq_true_eq] at h; omega) (by decide)) t ht
      )
    have h2 : (hostTs d).length * (4 + 500) ≤ 10 * (4 + 500) := Nat.mul_le_mul_right _ hl
    show (hostKs d).length + cntL 3 (hostTs d) ≤ 4194304
    omega
  · rw [cnt_tree0]; omega
theorem sizesT_Host (d : Host) (h : nHost d ≤ 1048576) : d.labels.length ≤ 1048576 ∧ d.taints.length ≤ 1048576 := by
  unfold nHost at h
  have h_labels := nL_def nLabel d.labels
  have h_taints := nL_def nTaint d.taints
  exact ⟨by omega, by omega⟩
theorem cntT_small_Host (d : Host) (h1 : d.labels.length ≤ 1048576) (h2 : d.taints.length ≤ 1048576) : cntHost d ≤ 1099530502144 := by
  unfold cntHost
  omega
set_option maxHeartbeats 8000000 in
set_option maxRecDepth 20000 in
theorem w_FnExactHostTree (d0 : Host) (v0 : Value) (w : World) (h0 : R_Host w d0 v0) (hp : Pow w) :
    Calls Tryz.prog 3 #[v0] w fun e w' => e = .returned (.bool true) ∧ Below w.heap.size w w' := by
  obtain ⟨cs, rfl, hC⟩ := h0
  have hC1 := hC
  obtain ⟨A1, a1, A5, a5, rfl⟩ := C_Host.open hC1
  by_cases hq : ((nHost d0 : Nat) : Int) ≤ 1048576
  · have hz := szI_pos hq
    have hz2 : ¬ szI 1048576 (nHost d0) < 0 := by omega
    have hnN : nHost d0 ≤ 1048576 := by omega
    obtain ⟨hn0, hn1⟩ := sizesT_Host d0 hnN
    obtain ⟨T, hT⟩ : ∃ T, T = hostT d0 := ⟨_, rfl⟩
    have Hc : cntT 4 T ≤ 4194304 := by rw [hT]; exact cnt_hostT _
    have hc0 : cntHost d0 ≤ 1099530502144 := cntT_small_Host d0 hn0 hn1
    have HT := Lib.hid hT
    have HC := Lib.hid Hc
    have HC0 := Lib.hid hc0
    have HCN := Lib.hid hC
    have Hp := Lib.hid hp
    clear hz hT Hc hc0 hC hC1 hp
    go_enter Tryz.func3, Tryz.ntmps3
    have Bw : Below w.heap.size w w := Below.refl _ _
    go_wp2_with fail
    refine (c_laws_szHost d0 [.string d0.name, .slice A1 d0.labels.length a1, .int .i64 d0.cpu, .int .i64 d0.mem, .int .i64 d0.slots, .slice A5 d0.taints.length a5] _ _ _ (C_Host.now HCN.out bel) (by omega) (by omega)).mono ?_
    rintro e w1 ⟨rfl, hb⟩
    have z1 := hb.size
    (try simp at z1)
    have SA : w1.heap[w.heap.size]? = some (.cells #[.string d0.name, .slice A1 d0.labels.length a1, .int .i64 d0.cpu, .int .i64 d0.mem, .int .i64 d0.slots, .slice A5 d0.taints.length a5] 25 (0, 0)) := (hb.block (w.heap.size) (by first | omega | (simp; try omega))).trans (heap_at (by simp))
    have Cw : Below w.heap.size w w1 := (Bw.alloc (by first | omega | (simp; try omega)) _).trans (hb.mono (by first | omega | (simp; try omega)))
    obtain ⟨xA0, xA1, xA2, xA3, xA4, xA5, xAf⟩ := row6 SA
    have lA := row_lt SA
    have mA := Nat.lt_succ_of_lt lA
    have nA := Nat.lt_succ_of_lt mA
    have RA := Lib.hid SA
    clear SA
    have Bw := Cw
    clear Cw
    clear hb
    go_wp2_with fail
    refine (c_laws_toHost d0 [.string d0.name, .slice A1 d0.labels.length a1, .int .i64 d0.cpu, .int .i64 d0.mem, .int .i64 d0.slots, .slice A5 d0.taints.length a5] _ _ (C_Host.now HCN.out Bw) hnN).mono ?_
    rintro e w2 ⟨cs2, rfl, hr2, hb⟩
    obtain ⟨T1, t1, T5, t5, rfl⟩ := C_Host.open hr2
    have z2 := hb.size
    (try simp at z2)
    have SA : w2.heap[w.heap.size]? = some (.cells #[.string d0.name, .slice A1 d0.labels.length a1, .int .i64 d0.cpu, .int .i64 d0.mem, .int .i64 d0.slots, .slice A5 d0.taints.length a5] 25 (0, 0)) := (hb.block (w.heap.size) (by first | omega | (simp; try omega))).trans RA.out
    have Cw : Below w.heap.size w w2 := Bw.trans (hb.mono (by first | omega | (simp; try omega)))
    clear RA Bw xA0 xA1 xA2 xA3 xA4 xA5 xAf lA mA nA
    obtain ⟨xA0, xA1, xA2, xA3, xA4, xA5, xAf⟩ := row6 SA
    have lA := row_lt SA
    have mA := Nat.lt_succ_of_lt lA
    have nA := Nat.lt_succ_of_lt mA
    have RA := Lib.hid SA
    clear SA
    have Bw := Cw
    clear Cw
    clear hb
    go_wp2_with fail
    refine (c_spec_HostTree 0 d0 _ _ _ hr2).mono ?_
    rintro e w3 ⟨cs3, rfl, T3, hb⟩
    rw [← HT.out] at T3
    obtain ⟨D4, e4, D5, e5, rfl, -⟩ := T3.flat
    have z3 := hb.size
    (try simp at z3)
    have SA : w3.heap[w.heap.size]? = some (.cells #[.string d0.name, .slice A1 d0.labels.length a1, .int .i64 d0.cpu, .int .i64 d0.mem, .int .i64 d0.slots, .slice A5 d0.taints.length a5] 25 (0, 0)) := (hb.block (w.heap.size) (by first | omega | (simp; try omega))).trans RA.out
    have Cw : Below w.heap.size w w3 := Bw.trans (hb.mono (by first | omega | (simp; try omega)))
    have CW := T3.toC (fun b hb => hb)
    clear T3
    clear RA Bw xA0 xA1 xA2 xA3 xA4 xA5 xAf lA mA nA
    obtain ⟨xA0, xA1, xA2, xA3, xA4, xA5, xAf⟩ := row6 SA
    have lA := row_lt SA
    have mA := Nat.lt_succ_of_lt lA
    have nA := Nat.lt_succ_of_lt mA
    have RA := Lib.hid SA
    clear SA
    have Bw := Cw
    clear Cw
    clear hb
    have BW : Below w3.heap.size w3 w3 := Below.refl _ _
    go_wp2_with fail
    refine (c_laws_toHostO d0 [.string d0.name, .slice A1 d0.labels.length a1, .int .i64 d0.cpu, .int .i64 d0.mem, .int .i64 d0.slots, .slice A5 d0.taints.length a5] _ _ (C_Host.now HCN.out (Bw.alloc (by first | omega | (simp; try omega)) _)) hnN).mono ?_
    rintro e w4 ⟨cs4, rfl, O4, hb⟩
    obtain ⟨E1, k1, E5, k5, rfl⟩ := O4.open
    have z4 := hb.size
    (try simp at z4)
    have SA : w4.heap[w.heap.size]? = some (.cells #[.string d0.name, .slice A1 d0.labels.length a1, .int .i64 d0.cpu, .int .i64 d0.mem, .int .i64 d0.slots, .slice A5 d0.taints.length a5] 25 (0, 0)) := (hb.block (w.heap.size) (by first | omega | (simp; try omega))).trans ((Below.heap_alloc _ _ _ (by first | omega | (simp; try omega))).trans RA.out)
    have SM : w4.heap[w3.heap.size]? = some (.cells #[.int .i64 T.kind, .bool T.flag, .int .i64 T.num, .string T.text, .slice D4 T.keys.length e4, .slice D5 T.kids.length e5] 30 (0, 0)) := (hb.block (w3.heap.size) (by first | omega | (simp; try omega))).trans (heap_at (by simp))
    have Cw : Below w.heap.size w w4 := (Bw.alloc (by first | omega | (simp; try omega)) _).trans (hb.mono (by first | omega | (simp; try omega)))
    have CW : Below w3.heap.size w3 w4 := (BW.alloc (by first | omega | (simp; try omega)) _).trans (hb.mono (by first | omega | (simp; try omega)))
    have OX := O4.carry (S' := fun b => w3.heap.size + 1 ≤ b ∧ b < w4.heap.size) (fun _ _ => rfl) (fun b hb => by simpa using hb)
    have CX := OX.toC (fun b hb => hb)
    clear O4
    clear RA Bw BW xA0 xA1 xA2 xA3 xA4 xA5 xAf lA mA nA
    obtain ⟨xA0, xA1, xA2, xA3, xA4, xA5, xAf⟩ := row6 SA
    have lA := row_lt SA
    have mA := Nat.lt_succ_of_lt lA
    have nA := Nat.lt_succ_of_lt mA
    have RA := Lib.hid SA
    clear SA
    obtain ⟨xM0, xM1, xM2, xM3, xM4, xM5, xMf⟩ := row6 SM
    have lM := row_lt SM
    have mM := Nat.lt_succ_of_lt lM
    have nM := Nat.lt_succ_of_lt mM
    have RM := Lib.hid SM
    clear SM
    have Bw := Cw
    clear Cw
    have BW := CW
    clear CW
    clear hb
    have BX : Below w4.heap.size w4 w4 := Below.refl _ _
    go_wp2_with fail
    refine (c_impl_HostTree 0 d0 [.string d0.name, .slice E1 d0.labels.length k1, .int .i64 d0.cpu, .int .i64 d0.mem, .int .i64 d0.slots, .slice E5 d0.taints.length k5] _ _ (C_Host.now CX (BX.alloc (Nat.le_refl _) _)) (Hp.out.below (Bw.alloc (by first | omega | (simp; try omega)) _))).mono ?_
    rintro e w5 ⟨cs5, rfl, T5, hb⟩
    rw [← HT.out] at T5
    obtain ⟨G4, i4, G5, i5, rfl, -⟩ := T5.flat
    have z5 := hb.size
    (try simp at z5)
    have SA : w5.heap[w.heap.size]? = some (.cells #[.string d0.name, .slice A1 d0.labels.length a1, .int .i64 d0.cpu, .int .i64 d0.mem, .int .i64 d0.slots, .slice A5 d0.taints.length a5] 25 (0, 0)) := (hb.block (w.heap.size) (by first | omega | (simp; try omega))).trans ((Below.heap_alloc _ _ _ (by first | omega | (simp; try omega))).trans RA.out)
    have SM : w5.heap[w3.heap.size]? = some (.cells #[.int .i64 T.kind, .bool T.flag, .int .i64 T.num, .string T.text, .slice D4 T.keys.length e4, .slice D5 T.kids.length e5] 30 (0, 0)) := (hb.block (w3.heap.size) (by first | omega | (simp; try omega))).trans ((Below.heap_alloc _ _ _ (by first | omega | (simp; try omega))).trans RM.out)
    have SX : w5.heap[w4.heap.size]? = some (.cells #[.string d0.name, .slice E1 d0.labels.length k1, .int .i64 d0.cpu, .int .i64 d0.mem, .int .i64 d0.slots, .slice E5 d0.taints.length k5] 35 (0, 0)) := (hb.block (w4.heap.size) (by first | omega | (simp; try omega))).trans (heap_at (by simp))
    have Cw : Below w.heap.size w w5 := (Bw.alloc (by first | omega | (simp; try omega)) _).trans (hb.mono (by first | omega | (simp; try omega)))
    have CW : Below w3.heap.size w3 w5 := (BW.alloc (by first | omega | (simp; try omega)) _).trans (hb.mono (by first | omega | (simp; try omega)))
    have CX : Below w4.heap.size w4 w5 := (BX.alloc (by first | omega | (simp; try omega)) _).trans (hb.mono (by first | omega | (simp; try omega)))
    have TG := T5.carry (S' := fun b => w4.heap.size + 1 ≤ b ∧ b < w5.heap.size) (fun _ _ => rfl) (fun b hb => by simpa using hb)
    have CG := TG.toC (fun b hb => hb)
    clear T5
    clear RA RM Bw BW BX xA0 xA1 xA2 xA3 xA4 xA5 xM0 xM1 xM2 xM3 xM4 xM5 xAf xMf lA mA nA lM mM nM
    obtain ⟨xA0, xA1, xA2, xA3, xA4, xA5, xAf⟩ := row6 SA
    have lA := row_lt SA
    have mA := Nat.lt_succ_of_lt lA
    have nA := Nat.lt_succ_of_lt mA
    have RA := Lib.hid SA
    clear SA
    obtain ⟨xM0, xM1, xM2, xM3, xM4, xM5, xMf⟩ := row6 SM
    have lM := row_lt SM
    have mM := Nat.lt_succ_of_lt lM
    have nM := Nat.lt_succ_of_lt mM
    have RM := Lib.hid SM
    clear SM
    obtain ⟨xX0, xX1, xX2, xX3, xX4, xX5, xXf⟩ := row6 SX
    have lX := row_lt SX
    have mX := Nat.lt_succ_of_lt lX
    have nX := Nat.lt_succ_of_lt mX
    have RX := Lib.hid SX
    clear SX
    have Bw := Cw
    clear Cw
    have BW := CW
    clear CW
    have BX := CX
    clear CX
    clear hb
    have BG : Below w5.heap.size w5 w5 := Below.refl _ _
    go_wp2_with fail
    refine (all_eqTree 4 T _ _ _ _ _ (CG.now (BG.alloc (by first | omega | (simp; try omega)) _)) (CW.now (BW.alloc (by first | omega | (simp; try omega)) _))).mono ?_
    rintro e w6 ⟨rfl, hb⟩
    have z6 := hb.size
    (try simp at z6)
    have SA : w6.heap[w.heap.size]? = some (.cells #[.string d0.name, .slice A1 d0.labels.length a1, .int .i64 d0.cpu, .int .i64 d0.mem, .int .i64 d0.slots, .slice A5 d0.taints.length a5] 25 (0, 0)) := (hb.block (w.heap.size) (by first | omega | (simp; try omega))).trans ((Below.heap_alloc _ _ _ (by first | omega | (simp; try omega))).trans RA.out)
    have SM : w6.heap[w3.heap.size]? = some (.cells #[.int .i64 T.kind, .bool T.flag, .int .i64 T.num, .string T.text, .slice D4 T.keys.length e4, .slice D5 T.kids.length e5] 30 (0, 0)) := (hb.block (w3.heap.size) (by first | omega | (simp; try omega))).trans ((Below.heap_alloc _ _ _ (by first | omega | (simp; try omega))).trans RM.out)
    have SX : w6.heap[w4.heap.size]? = some (.cells #[.string d0.name, .slice E1 d0.labels.length k1, .int .i64 d0.cpu, .int .i64 d0.mem, .int .i64 d0.slots, .slice E5 d0.taints.length k5] 35 (0, 0)) := (hb.block (w4.heap.size) (by first | omega | (simp; try omega))).trans ((Below.heap_alloc _ _ _ (by first | omega | (simp; try omega))).trans RX.out)
    have SG : w6.heap[w5.heap.size]? = some (.cells #[.int .i64 T.kind, .bool T.flag, .int .i64 T.num, .string T.text, .slice G4 T.keys.length i4, .slice G5 T.kids.length i5] 30 (0, 0)) := (hb.block (w5.heap.size) (by first | omega | (simp; try omega))).trans (heap_at (by simp))
    have Cw : Below w.heap.size w w6 := (Bw.alloc (by first | omega | (simp; try omega)) _).trans (hb.mono (by first | omega | (simp; try omega)))
    have CW : Below w3.heap.size w3 w6 := (BW.alloc (by first | omega | (simp; try omega)) _).trans (hb.mono (by first | omega | (simp; try omega)))
    have CX : Below w4.heap.size w4 w6 := (BX.alloc (by first | omega | (simp; try omega)) _).trans (hb.mono (by first | omega | (simp; try omega)))
    have CG : Below w5.heap.size w5 w6 := (BG.alloc (by first | omega | (simp; try omega)) _).trans (hb.mono (by first | omega | (simp; try omega)))
    clear RA RM RX Bw BW BX BG xA0 xA1 xA2 xA3 xA4 xA5 xM0 xM1 xM2 xM3 xM4 xM5 xX0 xX1 xX2 xX3 xX4 xX5 xAf xMf xXf lA mA nA lM mM nM lX mX nX
    obtain ⟨xA0, xA1, xA2, xA3, xA4, xA5, xAf⟩ := row6 SA
    have lA := row_lt SA
    have mA := Nat.lt_succ_of_lt lA
    have nA := Nat.lt_succ_of_lt mA
    have RA := Lib.hid SA
    clear SA
    obtain ⟨xM0, xM1, xM2, xM3, xM4, xM5, xMf⟩ := row6 SM
    have lM := row_lt SM
    have mM := Nat.lt_succ_of_lt lM
    have nM := Nat.lt_succ_of_lt mM
    have RM := Lib.hid SM
    clear SM
    obtain ⟨xX0, xX1, xX2, xX3, xX4, xX5, xXf⟩ := row6 SX
    have lX := row_lt SX
    have mX := Nat.lt_succ_of_lt lX
    have nX := Nat.lt_succ_of_lt mX
    have RX := Lib.hid SX
    clear SX
    obtain ⟨xG0, xG1, xG2, xG3, xG4, xG5, xGf⟩ := row6 SG
    have lG := row_lt SG
    have mG := Nat.lt_succ_of_lt lG
    have nG := Nat.lt_succ_of_lt mG
    have RG := Lib.hid SG
    clear SG
    have Bw := Cw
    clear Cw
    have BW := CW
    clear CW
    have BX := CX
    clear CX
    have BG := CG
    clear CG
    clear hb
    go_wp2_with fail
    have CX7 := C_Host.now CX BX
    go_region_held3 (fun w' => Below (w6).heap.size (w6) w' ∧ (∀ xb xo, xb < (w6).heap.size → w'.cell? ⟨xb, xo, none⟩ = (w6).cell? ⟨xb, xo, none⟩)) (first | exact keep_drew _ | exact keep_ext (by assumption) (by assumption) | exact keep_same (by assumption) | exact keep_alloc (by assumption) _) (first | (go_at_call 7; refine (c_laws_toHost d0 [.string d0.name, .slice A1 d0.labels.length a1, .int .i64 d0.cpu, .int .i64 d0.mem, .int .i64 d0.slots, .slice A5 d0.taints.length a5] _ _ (C_Host.now HCN.out (ext_trans Bw (by first | (with_reducible exact Below.refl _ _) | exact (keep_same (by assumption)).1))) hnN).mono ?_; rintro e w8 ⟨cs8, rfl, hr8, hb8⟩; obtain ⟨y1, q1, y5, q5, rfl⟩ := C_Host.open hr8) | (go_at_call 10; refine (c_laws_eqHost d0 [.string d0.name, .slice E1 d0.labels.length k1, .int .i64 d0.cpu, .int .i64 d0.mem, .int .i64 d0.slots, .slice E5 d0.taints.length k5] _ _ _ _ (C_Host.now CX7 (by first | (with_reducible exact Below.refl _ _) | exact (keep_same (by assumption)).1)) (C_Host.now hr8 (by first | exact Below.refl _ _ | exact (Below.refl _ _).drew))).mono ?_; rintro e w8 ⟨rfl, hb8⟩))
    have hb := held_step (by assumption)
    have z7 := hb.size
    (try simp at z7)
    have SA : w8.heap[w.heap.size]? = some (.cells #[.string d0.name, .slice A1 d0.labels.length a1, .int .i64 d0.cpu, .int .i64 d0.mem, .int .i64 d0.slots, .slice A5 d0.taints.length a5] 25 (0, 0)) := (hb.block (w.heap.size) (by first | omega | (simp; try omega))).trans RA.out
    have SM : w8.heap[w3.heap.size]? = some (.cells #[.int .i64 T.kind, .bool T.flag, .int .i64 T.num, .string T.text, .slice D4 T.keys.length e4, .slice D5 T.kids.length e5] 30 (0, 0)) := (hb.block (w3.heap.size) (by first | omega | (simp; try omega))).trans RM.out
    have SX : w8.heap[w4.heap.size]? = some (.cells #[.string d0.name, .slice E1 d0.labels.length k1, .int .i64 d0.cpu, .int .i64 d0.mem, .int .i64 d0.slots, .slice E5 d0.taints.length k5] 35 (0, 0)) := (hb.block (w4.heap.size) (by first | omega | (simp; try omega))).trans RX.out
    have SG : w8.heap[w5.heap.size]? = some (.cells #[.int .i64 T.kind, .bool T.flag, .int .i64 T.num, .string T.text, .slice G4 T.keys.length i4, .slice G5 T.kids.length i5] 30 (0, 0)) := (hb.block (w5.heap.size) (by first | omega | (simp; try omega))).trans RG.out
    have Cw : Below w.heap.size w w8 := Bw.trans (hb.mono (by first | omega | (simp; try omega)))
    have CW : Below w3.heap.size w3 w8 := BW.trans (hb.mono (by first | omega | (simp; try omega)))
    have CX : Below w4.heap.size w4 w8 := BX.trans (hb.mono (by first | omega | (simp; try omega)))
    have CG : Below w5.heap.size w5 w8 := BG.trans (hb.mono (by first | omega | (simp; try omega)))
    clear RA RM RX RG Bw BW BX BG xA0 xA1 xA2 xA3 xA4 xA5 xM0 xM1 xM2 xM3 xM4 xM5 xX0 xX1 xX2 xX3 xX4 xX5 xG0 xG1 xG2 xG3 xG4 xG5 xAf xMf xXf xGf lA mA nA lM mM nM lX mX nX lG mG nG
    obtain ⟨xA0, xA1, xA2, xA3, xA4, xA5, xAf⟩ := row6 SA
    have lA := row_lt SA
    have mA := Nat.lt_succ_of_lt lA
    have nA := Nat.lt_succ_of_lt mA
    have RA := Lib.hid SA
    clear SA
    obtain ⟨xM0, xM1, xM2, xM3, xM4, xM5, xMf⟩ := row6 SM
    have lM := row_lt SM
    have mM := Nat.lt_succ_of_lt lM
    have nM := Nat.lt_succ_of_lt mM
    have RM := Lib.hid SM
    clear SM
    obtain ⟨xX0, xX1, xX2, xX3, xX4, xX5, xXf⟩ := row6 SX
    have lX := row_lt SX
    have mX := Nat.lt_succ_of_lt lX
    have nX := Nat.lt_succ_of_lt mX
    have RX := Lib.hid SX
    clear SX
    obtain ⟨xG0, xG1, xG2, xG3, xG4, xG5, xGf⟩ := row6 SG
    have lG := row_lt SG
    have mG := Nat.lt_succ_of_lt lG
    have nG := Nat.lt_succ_of_lt mG
    have RG := Lib.hid SG
    clear SG
    have Bw := Cw
    clear Cw
    have BW := CW
    clear CW
    have BX := CX
    clear CX
    have BG := CG
    clear CG
    clear hb
    go_wp2_with fail
    refine (c_laws_markHost d0 _ _ _ _ (OX.carry (w' := w8) (fun b hb => BX.block b hb.2) (fun _ h => h)) (fun b hb => by omega) (by decide) (by have := HC0.out; omega)).mono ?_
    rintro e w9 ⟨l9, rfl, -, -, -, hb⟩
    have hq9 : (0 : Int) ≤ cntHost d0 := by omega
    obtain ⟨n9, hn9⟩ : ∃ n : Int, n = 1 + (cntHost d0 : Int) := ⟨_, rfl⟩
    rw [← hn9]
    have h9p : ¬ n9 < 0 := by omega
    clear hn9
    have z9 := hb.size
    have SA : w9.heap[w.heap.size]? = some (.cells #[.string d0.name, .slice A1 d0.labels.length a1, .int .i64 d0.cpu, .int .i64 d0.mem, .int .i64 d0.slots, .slice A5 d0.taints.length a5] 25 (0, 0)) := (hb.block (w.heap.size) (by omega) (by omega)).trans RA.out
    have SM : w9.heap[w3.heap.size]? = some (.cells #[.int .i64 T.kind, .bool T.flag, .int .i64 T.num, .string T.text, .slice D4 T.keys.length e4, .slice D5 T.kids.length e5] 30 (0, 0)) := (hb.block (w3.heap.size) (by omega) (by omega)).trans RM.out
    have SX : w9.heap[w4.heap.size]? = some (.cells #[.string d0.name, .slice E1 d0.labels.length k1, .int .i64 d0.cpu, .int .i64 d0.mem, .int .i64 d0.slots, .slice E5 d0.taints.length k5] 35 (0, 0)) := (hb.block (w4.heap.size) (by omega) (by omega)).trans RX.out
    have SG : w9.heap[w5.heap.size]? = some (.cells #[.int .i64 T.kind, .bool T.flag, .int .i64 T.num, .string T.text, .slice G4 T.keys.length i4, .slice G5 T.kids.length i5] 30 (0, 0)) := (hb.block (w5.heap.size) (by omega) (by omega)).trans RG.out
    have Cw : Below w.heap.size w w9 := Bw.trans (hb.below (by omega) (fun i hi => by omega))
    have CW : Below w3.heap.size w3 w9 := BW.trans (hb.below (by omega) (fun i hi => by omega))
    have TG9 := TG.carry (w' := w9) (fun b hq => (hb.block b (by omega) (by omega)).trans (BG.block b hq.2)) (fun _ h => h)
    have CG9 := TG9.toC (lo := w4.heap.size + 1) (hi := w9.heap.size) (fun b hq => ⟨hq.1, by omega⟩)
    clear TG CG CX CX7 OX
    clear RA RM RX RG Bw BW xA0 xA1 xA2 xA3 xA4 xA5 xM0 xM1 xM2 xM3 xM4 xM5 xX0 xX1 xX2 xX3 xX4 xX5 xG0 xG1 xG2 xG3 xG4 xG5 xAf xMf xXf xGf lA mA nA lM mM nM lX mX nX lG mG nG
    obtain ⟨xA0, xA1, xA2, xA3, xA4, xA5, xAf⟩ := row6 SA
    have lA := row_lt SA
    have mA := Nat.lt_succ_of_lt lA
    have nA := Nat.lt_succ_of_lt mA
    have RA := Lib.hid SA
    clear SA
    obtain ⟨xM0, xM1, xM2, xM3, xM4, xM5, xMf⟩ := row6 SM
    have lM := row_lt SM
    have mM := Nat.lt_succ_of_lt lM
    have nM := Nat.lt_succ_of_lt mM
    have RM := Lib.hid SM
    clear SM
    obtain ⟨xX0, xX1, xX2, xX3, xX4, xX5, xXf⟩ := row6 SX
    have lX := row_lt SX
    have mX := Nat.lt_succ_of_lt lX
    have nX := Nat.lt_succ_of_lt mX
    have RX := Lib.hid SX
    clear SX
    obtain ⟨xG0, xG1, xG2, xG3, xG4, xG5, xGf⟩ := row6 SG
    have lG := row_lt SG
    have mG := Nat.lt_succ_of_lt lG
    have nG := Nat.lt_succ_of_lt mG
    have RG := Lib.hid SG
    clear SG
    have Bw := Cw
    clear Cw
    have BW := CW
    clear CW
    clear hb
    go_wp2_with fail
    refine (all_eqTree 4 T _ _ _ _ _ CG9 (CW.now BW)).mono ?_
    rintro e w10 ⟨rfl, hb⟩
    have z10 := hb.size
    (try simp at z10)
    have SA : w10.heap[w.heap.size]? = some (.cells #[.string d0.name, .slice A1 d0.labels.length a1, .int .i64 d0.cpu, .int .i64 d0.mem, .int .i64 d0.slots, .slice A5 d0.taints.length a5] 25 (0, 0)) := (hb.block (w.heap.size) (by first | omega | (simp; try omega))).trans RA.out
    have SM : w10.heap[w3.heap.size]? = some (.cells #[.int .i64 T.kind, .bool T.flag, .int .i64 T.num, .string T.text, .slice D4 T.keys.length e4, .slice D5 T.kids.length e5] 30 (0, 0)) := (hb.block (w3.heap.size) (by first | omega | (simp; try omega))).trans RM.out
    have SX : w10.heap[w4.heap.size]? = some (.cells #[.string d0.name, .slice E1 d0.labels.length k1, .int .i64 d0.cpu, .int .i64 d0.mem, .int .i64 d0.slots, .slice E5 d0.taints.length k5] 35 (0, 0)) := (hb.block (w4.heap.size) (by first | omega | (simp; try omega))).trans RX.out
    have SG : w10.heap[w5.heap.size]? = some (.cells #[.int .i64 T.kind, .bool T.flag, .int .i64 T.num, .string T.text, .slice G4 T.keys.length i4, .slice G5 T.kids.length i5] 30 (0, 0)) := (hb.block (w5.heap.size) (by first | omega | (simp; try omega))).trans RG.out
    have Cw : Below w.heap.size w w10 := Bw.trans (hb.mono (by first | omega | (simp; try omega)))
    have CW : Below w3.heap.size w3 w10 := BW.trans (hb.mono (by first | omega | (simp; try omega)))
    have TG10 := TG9.carry (w' := w10) (fun b hq => hb.block b (by omega)) (fun _ h => h)
    clear TG9 CG9
    clear RA RM RX RG Bw BW xA0 xA1 xA2 xA3 xA4 xA5 xM0 xM1 xM2 xM3 xM4 xM5 xX0 xX1 xX2 xX3 xX4 xX5 xG0 xG1 xG2 xG3 xG4 xG5 xAf xMf xXf xGf lA mA nA lM mM nM lX mX nX lG mG nG
    obtain ⟨xA0, xA1, xA2, xA3, xA4, xA5, xAf⟩ := row6 SA
    have lA := row_lt SA
    have mA := Nat.lt_succ_of_lt lA
    have nA := Nat.lt_succ_of_lt mA
    have RA := Lib.hid SA
    clear SA
    obtain ⟨xM0, xM1, xM2, xM3, xM4, xM5, xMf⟩ := row6 SM
    have lM := row_lt SM
    have mM := Nat.lt_succ_of_lt lM
    have nM := Nat.lt_succ_of_lt mM
    have RM := Lib.hid SM
    clear SM
    obtain ⟨xX0, xX1, xX2, xX3, xX4, xX5, xXf⟩ := row6 SX
    have lX := row_lt SX
    have mX := Nat.lt_succ_of_lt lX
    have nX := Nat.lt_succ_of_lt mX
    have RX := Lib.hid SX
    clear SX
    obtain ⟨xG0, xG1, xG2, xG3, xG4, xG5, xGf⟩ := row6 SG
    have lG := row_lt SG
    have mG := Nat.lt_succ_of_lt lG
    have nG := Nat.lt_succ_of_lt mG
    have RG := Lib.hid SG
    clear SG
    have Bw := Cw
    clear Cw
    have BW := CW
    clear CW
    clear hb
    go_wp2_with fail
    refine (all_mark 4 T _ _ _ _ TG10 (fun b hb => by omega) (by decide) (by have := HC.out; omega)).mono ?_
    rintro e w11 ⟨g0d, rfl, TG11, MG, EG, hb⟩
    have z11 := hb.size
    have SA : w11.heap[w.heap.size]? = some (.cells #[.string d0.name, .slice A1 d0.labels.length a1, .int .i64 d0.cpu, .int .i64 d0.mem, .int .i64 d0.slots, .slice A5 d0.taints.length a5] 25 (0, 0)) := (hb.block (w.heap.size) (by omega) (by omega)).trans RA.out
    have SM : w11.heap[w3.heap.size]? = some (.cells #[.int .i64 T.kind, .bool T.flag, .int .i64 T.num, .string T.text, .slice D4 T.keys.length e4, .slice D5 T.kids.length e5] 30 (0, 0)) := (hb.block (w3.heap.size) (by omega) (by omega)).trans RM.out
    have SX : w11.heap[w4.heap.size]? = some (.cells #[.string d0.name, .slice E1 d0.labels.length k1, .int .i64 d0.cpu, .int .i64 d0.mem, .int .i64 d0.slots, .slice E5 d0.taints.length k5] 35 (0, 0)) := (hb.block (w4.heap.size) (by omega) (by omega)).trans RX.out
    have SG : w11.heap[w5.heap.size]? = some (.cells #[.int .i64 T.kind, .bool T.flag, .int .i64 T.num, .string T.text, .slice G4 T.keys.length i4, .slice G5 T.kids.length i5] 30 (0, 0)) := (hb.block (w5.heap.size) (by omega) (by omega)).trans RG.out
    have Cw : Below w.heap.size w w11 := Bw.trans (hb.below (by omega) (fun i hi => by omega))
    have CW : Below w3.heap.size w3 w11 := BW.trans (hb.below (by omega) (fun i hi => by omega))
    have CG11 := TG11.toC (lo := w4.heap.size + 1) (hi := w11.heap.size) (fun b hq => ⟨hq.1, by omega⟩)
    have HE := Lib.hid EG
    have HM := Lib.hid MG
    clear TG10 TG11 EG MG
    clear RA RM RX RG Bw BW xA0 xA1 xA2 xA3 xA4 xA5 xM0 xM1 xM2 xM3 xM4 xM5 xX0 xX1 xX2 xX3 xX4 xX5 xG0 xG1 xG2 xG3 xG4 xG5 xAf xMf xXf xGf lA mA nA lM mM nM lX mX nX lG mG nG
    obtain ⟨xA0, xA1, xA2, xA3, xA4, xA5, xAf⟩ := row6 SA
    have lA := row_lt SA
    have mA := Nat.lt_succ_of_lt lA
    have nA := Nat.lt_succ_of_lt mA
    have RA := Lib.hid SA
    clear SA
    obtain ⟨xM0, xM1, xM2, xM3, xM4, xM5, xMf⟩ := row6 SM
    have lM := row_lt SM
    have mM := Nat.lt_succ_of_lt lM
    have nM := Nat.lt_succ_of_lt mM
    have RM := Lib.hid SM
    clear SM
    obtain ⟨xX0, xX1, xX2, xX3, xX4, xX5, xXf⟩ := row6 SX
    have lX := row_lt SX
    have mX := Nat.lt_succ_of_lt lX
    have nX := Nat.lt_succ_of_lt mX
    have RX := Lib.hid SX
    clear SX
    obtain ⟨xG0, xG1, xG2, xG3, xG4, xG5, xGf⟩ := row6 SG
    have lG := row_lt SG
    have mG := Nat.lt_succ_of_lt lG
    have nG := Nat.lt_succ_of_lt mG
    have RG := Lib.hid SG
    clear SG
    have Bw := Cw
    clear Cw
    have BW := CW
    clear CW
    clear hb
    have BD : Below w11.heap.size w11 w11 := Below.refl _ _
    obtain ⟨cg, hcg⟩ : ∃ cg : Int, cg = (cntT 4 T : Int) := ⟨_, rfl⟩
    have Hcg := Lib.hid hcg
    have hcg0 : 0 ≤ cg := by omega
    have hcg1 : cg ≤ 4194304 := by have := HC.out; omega
    rw [← hcg]
    clear hcg
    go_wp2_with fail
    refine (c_laws_heldTree 4 g0d _ _ _ _ CG11 HM.out (by decide) (by have := HE.out; have := Hcg.out; omega)).mono ?_
    rintro e w12 ⟨rfl, hb⟩
    rw [HE.out, ← Hcg.out]
    have z12 := hb.size
    (try simp at z12)
    have SA : w12.heap[w.heap.size]? = some (.cells #[.string d0.name, .slice A1 d0.labels.length a1, .int .i64 d0.cpu, .int .i64 d0.mem, .int .i64 d0.slots, .slice A5 d0.taints.length a5] 25 (0, 0)) := (hb.block (w.heap.size) (by first | omega | (simp; try omega))).trans RA.out
    have SM : w12.heap[w3.heap.size]? = some (.cells #[.int .i64 T.kind, .bool T.flag, .int .i64 T.num, .string T.text, .slice D4 T.keys.length e4, .slice D5 T.kids.length e5] 30 (0, 0)) := (hb.block (w3.heap.size) (by first | omega | (simp; try omega))).trans RM.out
    have SX : w12.heap[w4.heap.size]? = some (.cells #[.string d0.name, .slice E1 d0.labels.length k1, .int .i64 d0.cpu, .int .i64 d0.mem, .int .i64 d0.slots, .slice E5 d0.taints.length k5] 35 (0, 0)) := (hb.block (w4.heap.size) (by first | omega | (simp; try omega))).trans RX.out
    have SG : w12.heap[w5.heap.size]? = some (.cells #[.int .i64 T.kind, .bool T.flag, .int .i64 T.num, .string T.text, .slice G4 T.keys.length i4, .slice G5 T.kids.length i5] 30 (0, 0)) := (hb.block (w5.heap.size) (by first | omega | (simp; try omega))).trans RG.out
    have Cw : Below w.heap.size w w12 := Bw.trans (hb.mono (by first | omega | (simp; try omega)))
    have CW : Below w3.heap.size w3 w12 := BW.trans (hb.mono (by first | omega | (simp; try omega)))
    have CD : Below w11.heap.size w11 w12 := BD.trans (hb.mono (by first | omega | (simp; try omega)))
    clear RA RM RX RG Bw BW BD xA0 xA1 xA2 xA3 xA4 xA5 xM0 xM1 xM2 xM3 xM4 xM5 xX0 xX1 xX2 xX3 xX4 xX5 xG0 xG1 xG2 xG3 xG4 xG5 xAf xMf xXf xGf lA mA nA lM mM nM lX mX nX lG mG nG
    obtain ⟨xA0, xA1, xA2, xA3, xA4, xA5, xAf⟩ := row6 SA
    have lA := row_lt SA
    have mA := Nat.lt_succ_of_lt lA
    have nA := Nat.lt_succ_of_lt mA
    have RA := Lib.hid SA
    clear SA
    obtain ⟨xM0, xM1, xM2, xM3, xM4, xM5, xMf⟩ := row6 SM
    have lM := row_lt SM
    have mM := Nat.lt_succ_of_lt lM
    have nM := Nat.lt_succ_of_lt mM
    have RM := Lib.hid SM
    clear SM
    obtain ⟨xX0, xX1, xX2, xX3, xX4, xX5, xXf⟩ := row6 SX
    have lX := row_lt SX
    have mX := Nat.lt_succ_of_lt lX
    have nX := Nat.lt_succ_of_lt mX
    have RX := Lib.hid SX
    clear SX
    obtain ⟨xG0, xG1, xG2, xG3, xG4, xG5, xGf⟩ := row6 SG
    have lG := row_lt SG
    have mG := Nat.lt_succ_of_lt lG
    have nG := Nat.lt_succ_of_lt mG
    have RG := Lib.hid SG
    clear SG
    have Bw := Cw
    clear Cw
    have BW := CW
    clear CW
    have BD := CD
    clear CD
    clear hb
    go_wp2_with fail
    refine (c_laws_toHost d0 [.string d0.name, .slice A1 d0.labels.length a1, .int .i64 d0.cpu, .int .i64 d0.mem, .int .i64 d0.slots, .slice A5 d0.taints.length a5] _ _ (C_Host.now HCN.out Bw) hnN).mono ?_
    rintro e w13 ⟨cs13, rfl, hr13, hb⟩
    obtain ⟨U1, u1, U5, u5, rfl⟩ := C_Host.open hr13
    have z13 := hb.size
    (try simp at z13)
    have SA : w13.heap[w.heap.size]? = some (.cells #[.string d0.name, .slice A1 d0.labels.length a1, .int .i64 d0.cpu, .int .i64 d0.mem, .int .i64 d0.slots, .slice A5 d0.taints.length a5] 25 (0, 0)) := (hb.block (w.heap.size) (by first | omega | (simp; try omega))).trans RA.out
    have SM : w13.heap[w3.heap.size]? = some (.cells #[.int .i64 T.kind, .bool T.flag, .int .i64 T.num, .string T.text, .slice D4 T.keys.length e4, .slice D5 T.kids.length e5] 30 (0, 0)) := (hb.block (w3.heap.size) (by first | omega | (simp; try omega))).trans RM.out
    have SX : w13.heap[w4.heap.size]? = some (.cells #[.string d0.name, .slice E1 d0.labels.length k1, .int .i64 d0.cpu, .int .i64 d0.mem, .int .i64 d0.slots, .slice E5 d0.taints.length k5] 35 (0, 0)) := (hb.block (w4.heap.size) (by first | omega | (simp; try omega))).trans RX.out
    have SG : w13.heap[w5.heap.size]? = some (.cells #[.int .i64 T.kind, .bool T.flag, .int .i64 T.num, .string T.text, .slice G4 T.keys.length i4, .slice G5 T.kids.length i5] 30 (0, 0)) := (hb.block (w5.heap.size) (by first | omega | (simp; try omega))).trans RG.out
    have Cw : Below w.heap.size w w13 := Bw.trans (hb.mono (by first | omega | (simp; try omega)))
    have CW : Below w3.heap.size w3 w13 := BW.trans (hb.mono (by first | omega | (simp; try omega)))
    have CD : Below w11.heap.size w11 w13 := BD.trans (hb.mono (by first | omega | (simp; try omega)))
    clear RA RM RX RG Bw BW BD xA0 xA1 xA2 xA3 xA4 xA5 xM0 xM1 xM2 xM3 xM4 xM5 xX0 xX1 xX2 xX3 xX4 xX5 xG0 xG1 xG2 xG3 xG4 xG5 xAf xMf xXf xGf lA mA nA lM mM nM lX mX nX lG mG nG
    obtain ⟨xA0, xA1, xA2, xA3, xA4, xA5, xAf⟩ := row6 SA
    have lA := row_lt SA
    have mA := Nat.lt_succ_of_lt lA
    have nA := Nat.lt_succ_of_lt mA
    have RA := Lib.hid SA
    clear SA
    obtain ⟨xM0, xM1, xM2, xM3, xM4, xM5, xMf⟩ := row6 SM
    have lM := row_lt SM
    have mM := Nat.lt_succ_of_lt lM
    have nM := Nat.lt_succ_of_lt mM
    have RM := Lib.hid SM
    clear SM
    obtain ⟨xX0, xX1, xX2, xX3, xX4, xX5, xXf⟩ := row6 SX
    have lX := row_lt SX
    have mX := Nat.lt_succ_of_lt lX
    have nX := Nat.lt_succ_of_lt mX
    have RX := Lib.hid SX
    clear SX
    obtain ⟨xG0, xG1, xG2, xG3, xG4, xG5, xGf⟩ := row6 SG
    have lG := row_lt SG
    have mG := Nat.lt_succ_of_lt lG
    have nG := Nat.lt_succ_of_lt mG
    have RG := Lib.hid SG
    clear SG
    have Bw := Cw
    clear Cw
    have BW := CW
    clear CW
    have BD := CD
    clear CD
    clear hb
    go_wp2_with fail
    refine (c_impl_HostTree 0 d0 _ _ _ hr13 (Hp.out.below Bw)).mono ?_
    rintro e w14 ⟨cs14, rfl, T14, hb⟩
    rw [← HT.out] at T14
    obtain ⟨Q4, r4, Q5, r5, rfl, -⟩ := T14.flat
    have z14 := hb.size
    (try simp at z14)
    have SA : w14.heap[w.heap.size]? = some (.cells #[.string d0.name, .slice A1 d0.labels.length a1, .int .i64 d0.cpu, .int .i64 d0.mem, .int .i64 d0.slots, .slice A5 d0.taints.length a5] 25 (0, 0)) := (hb.block (w.heap.size) (by first | omega | (simp; try omega))).trans RA.out
    have SM : w14.heap[w3.heap.size]? = some (.cells #[.int .i64 T.kind, .bool T.flag, .int .i64 T.num, .string T.text, .slice D4 T.keys.length e4, .slice D5 T.kids.length e5] 30 (0, 0)) := (hb.block (w3.heap.size) (by first | omega | (simp; try omega))).trans RM.out
    have SX : w14.heap[w4.heap.size]? = some (.cells #[.string d0.name, .slice E1 d0.labels.length k1, .int .i64 d0.cpu, .int .i64 d0.mem, .int .i64 d0.slots, .slice E5 d0.taints.length k5] 35 (0, 0)) := (hb.block (w4.heap.size) (by first | omega | (simp; try omega))).trans RX.out
    have SG : w14.heap[w5.heap.size]? = some (.cells #[.int .i64 T.kind, .bool T.flag, .int .i64 T.num, .string T.text, .slice G4 T.keys.length i4, .slice G5 T.kids.length i5] 30 (0, 0)) := (hb.block (w5.heap.size) (by first | omega | (simp; try omega))).trans RG.out
    have Cw : Below w.heap.size w w14 := Bw.trans (hb.mono (by first | omega | (simp; try omega)))
    have CW : Below w3.heap.size w3 w14 := BW.trans (hb.mono (by first | omega | (simp; try omega)))
    have CD : Below w11.heap.size w11 w14 := BD.trans (hb.mono (by first | omega | (simp; try omega)))
    have CH := T14.toC (fun b hb => hb)
    clear T14
    clear RA RM RX RG Bw BW BD xA0 xA1 xA2 xA3 xA4 xA5 xM0 xM1 xM2 xM3 xM4 xM5 xX0 xX1 xX2 xX3 xX4 xX5 xG0 xG1 xG2 xG3 xG4 xG5 xAf xMf xXf xGf lA mA nA lM mM nM lX mX nX lG mG nG
    obtain ⟨xA0, xA1, xA2, xA3, xA4, xA5, xAf⟩ := row6 SA
    have lA := row_lt SA
    have mA := Nat.lt_succ_of_lt lA
    have nA := Nat.lt_succ_of_lt mA
    have RA := Lib.hid SA
    clear SA
    obtain ⟨xM0, xM1, xM2, xM3, xM4, xM5, xMf⟩ := row6 SM
    have lM := row_lt SM
    have mM := Nat.lt_succ_of_lt lM
    have nM := Nat.lt_succ_of_lt mM
    have RM := Lib.hid SM
    clear SM
    obtain ⟨xX0, xX1, xX2, xX3, xX4, xX5, xXf⟩ := row6 SX
    have lX := row_lt SX
    have mX := Nat.lt_succ_of_lt lX
    have nX := Nat.lt_succ_of_lt mX
    have RX := Lib.hid SX
    clear SX
    obtain ⟨xG0, xG1, xG2, xG3, xG4, xG5, xGf⟩ := row6 SG
    have lG := row_lt SG
    have mG := Nat.lt_succ_of_lt lG
    have nG := Nat.lt_succ_of_lt mG
    have RG := Lib.hid SG
    clear SG
    have Bw := Cw
    clear Cw
    have BW := CW
    clear CW
    have BD := CD
    clear CD
    clear hb
    go_wp2_with fail
    refine (all_eqTree 4 T _ _ _ _ _ (CH.now ((Below.refl _ _).alloc (Nat.le_refl _) _)) (CW.now (BW.alloc (by first | omega | (simp; try omega)) _))).mono ?_
    rintro e w15 ⟨rfl, hb⟩
    have z15 := hb.size
    (try simp at z15)
    have SA : w15.heap[w.heap.size]? = some (.cells #[.string d0.name, .slice A1 d0.labels.length a1, .int .i64 d0.cpu, .int .i64 d0.mem, .int .i64 d0.slots, .slice A5 d0.taints.length a5] 25 (0, 0)) := (hb.block (w.heap.size) (by first | omega | (simp; try omega))).trans ((Below.heap_alloc _ _ _ (by first | omega | (simp; try omega))).trans RA.out)
    have SM : w15.heap[w3.heap.size]? = some (.cells #[.int .i64 T.kind, .bool T.flag, .int .i64 T.num, .string T.text, .slice D4 T.keys.length e4, .slice D5 T.kids.length e5] 30 (0, 0)) := (hb.block (w3.heap.size) (by first | omega | (simp; try omega))).trans ((Below.heap_alloc _ _ _ (by first | omega | (simp; try omega))).trans RM.out)
    have SX : w15.heap[w4.heap.size]? = some (.cells #[.string d0.name, .slice E1 d0.labels.length k1, .int .i64 d0.cpu, .int .i64 d0.mem, .int .i64 d0.slots, .slice E5 d0.taints.length k5] 35 (0, 0)) := (hb.block (w4.heap.size) (by first | omega | (simp; try omega))).trans ((Below.heap_alloc _ _ _ (by first | omega | (simp; try omega))).trans RX.out)
    have SG : w15.heap[w5.heap.size]? = some (.cells #[.int .i64 T.kind, .bool T.flag, .int .i64 T.num, .string T.text, .slice G4 T.keys.length i4, .slice G5 T.kids.length i5] 30 (0, 0)) := (hb.block (w5.heap.size) (by first | omega | (simp; try omega))).trans ((Below.heap_alloc _ _ _ (by first | omega | (simp; try omega))).trans RG.out)
    have SP : w15.heap[w14.heap.size]? = some (.cells #[.int .i64 T.kind, .bool T.flag, .int .i64 T.num, .string T.text, .slice Q4 T.keys.length r4, .slice Q5 T.kids.length r5] 30 (0, 0)) := (hb.block (w14.heap.size) (by first | omega | (simp; try omega))).trans (heap_at (by simp))
    have Cw : Below w.heap.size w w15 := (Bw.alloc (by first | omega | (simp; try omega)) _).trans (hb.mono (by first | omega | (simp; try omega)))
    have CW : Below w3.heap.size w3 w15 := (BW.alloc (by first | omega | (simp; try omega)) _).trans (hb.mono (by first | omega | (simp; try omega)))
    have CD : Below w11.heap.size w11 w15 := (BD.alloc (by first | omega | (simp; try omega)) _).trans (hb.mono (by first | omega | (simp; try omega)))
    clear RA RM RX RG Bw BW BD xA0 xA1 xA2 xA3 xA4 xA5 xM0 xM1 xM2 xM3 xM4 xM5 xX0 xX1 xX2 xX3 xX4 xX5 xG0 xG1 xG2 xG3 xG4 xG5 xAf xMf xXf xGf lA mA nA lM mM nM lX mX nX lG mG nG
    obtain ⟨xA0, xA1, xA2, xA3, xA4, xA5, xAf⟩ := row6 SA
    have lA := row_lt SA
    have mA := Nat.lt_succ_of_lt lA
    have nA := Nat.lt_succ_of_lt mA
    have RA := Lib.hid SA
    clear SA
    obtain ⟨xM0, xM1, xM2, xM3, xM4, xM5, xMf⟩ := row6 SM
    have lM := row_lt SM
    have mM := Nat.lt_succ_of_lt lM
    have nM := Nat.lt_succ_of_lt mM
    have RM := Lib.hid SM
    clear SM
    obtain ⟨xX0, xX1, xX2, xX3, xX4, xX5, xXf⟩ := row6 SX
    have lX := row_lt SX
    have mX := Nat.lt_succ_of_lt lX
    have nX := Nat.lt_succ_of_lt mX
    have RX := Lib.hid SX
    clear SX
    obtain ⟨xG0, xG1, xG2, xG3, xG4, xG5, xGf⟩ := row6 SG
    have lG := row_lt SG
    have mG := Nat.lt_succ_of_lt lG
    have nG := Nat.lt_succ_of_lt mG
    have RG := Lib.hid SG
    clear SG
    obtain ⟨xP0, xP1, xP2, xP3, xP4, xP5, xPf⟩ := row6 SP
    have lP := row_lt SP
    have mP := Nat.lt_succ_of_lt lP
    have nP := Nat.lt_succ_of_lt mP
    have RP := Lib.hid SP
    clear SP
    have Bw := Cw
    clear Cw
    have BW := CW
    clear CW
    have BD := CD
    clear CD
    clear hb
    go_wp2_with fail
    refine (c_laws_heldTree 4 g0d _ _ _ _ (CG11.now BD) HM.out (by decide) (by have := HE.out; have := Hcg.out; omega)).mono ?_
    rintro e w16 ⟨rfl, hb⟩
    rw [HE.out, ← Hcg.out]
    have z16 := hb.size
    (try simp at z16)
    have SA : w16.heap[w.heap.size]? = some (.cells #[.string d0.name, .slice A1 d0.labels.length a1, .int .i64 d0.cpu, .int .i64 d0.mem, .int .i64 d0.slots, .slice A5 d0.taints.length a5] 25 (0, 0)) := (hb.block (w.heap.size) (by first | omega | (simp; try omega))).trans RA.out
    have SM : w16.heap[w3.heap.size]? = some (.cells #[.int .i64 T.kind, .bool T.flag, .int .i64 T.num, .string T.text, .slice D4 T.keys.length e4, .slice D5 T.kids.length e5] 30 (0, 0)) := (hb.block (w3.heap.size) (by first | omega | (simp; try omega))).trans RM.out
    have SX : w16.heap[w4.heap.size]? = some (.cells #[.string d0.name, .slice E1 d0.labels.length k1, .int .i64 d0.cpu, .int .i64 d0.mem, .int .i64 d0.slots, .slice E5 d0.taints.length k5] 35 (0, 0)) := (hb.block (w4.heap.size) (by first | omega | (simp; try omega))).trans RX.out
    have SG : w16.heap[w5.heap.size]? = some (.cells #[.int .i64 T.kind, .bool T.flag, .int .i64 T.num, .string T.text, .slice G4 T.keys.length i4, .slice G5 T.kids.length i5] 30 (0, 0)) := (hb.block (w5.heap.size) (by first | omega | (simp; try omega))).trans RG.out
    have SP : w16.heap[w14.heap.size]? = some (.cells #[.int .i64 T.kind, .bool T.flag, .int .i64 T.num, .string T.text, .slice Q4 T.keys.length r4, .slice Q5 T.kids.length r5] 30 (0, 0)) := (hb.block (w14.heap.size) (by first | omega | (simp; try omega))).trans RP.out
    have Cw : Below w.heap.size w w16 := Bw.trans (hb.mono (by first | omega | (simp; try omega)))
    have CW : Below w3.heap.size w3 w16 := BW.trans (hb.mono (by first | omega | (simp; try omega)))
    have CD : Below w11.heap.size w11 w16 := BD.trans (hb.mono (by first | omega | (simp; try omega)))
    clear RA RM RX RG RP Bw BW BD xA0 xA1 xA2 xA3 xA4 xA5 xM0 xM1 xM2 xM3 xM4 xM5 xX0 xX1 xX2 xX3 xX4 xX5 xG0 xG1 xG2 xG3 xG4 xG5 xP0 xP1 xP2 xP3 xP4 xP5 xAf xMf xXf xGf xPf lA mA nA lM mM nM lX mX nX lG mG nG lP mP nP
    obtain ⟨xA0, xA1, xA2, xA3, xA4, xA5, xAf⟩ := row6 SA
    have lA := row_lt SA
    have mA := Nat.lt_succ_of_lt lA
    have nA := Nat.lt_succ_of_lt mA
    have RA := Lib.hid SA
    clear SA
    obtain ⟨xM0, xM1, xM2, xM3, xM4, xM5, xMf⟩ := row6 SM
    have lM := row_lt SM
    have mM := Nat.lt_succ_of_lt lM
    have nM := Nat.lt_succ_of_lt mM
    have RM := Lib.hid SM
    clear SM
    obtain ⟨xX0, xX1, xX2, xX3, xX4, xX5, xXf⟩ := row6 SX
    have lX := row_lt SX
    have mX := Nat.lt_succ_of_lt lX
    have nX := Nat.lt_succ_of_lt mX
    have RX := Lib.hid SX
    clear SX
    obtain ⟨xG0, xG1, xG2, xG3, xG4, xG5, xGf⟩ := row6 SG
    have lG := row_lt SG
    have mG := Nat.lt_succ_of_lt lG
    have nG := Nat.lt_succ_of_lt mG
    have RG := Lib.hid SG
    clear SG
    obtain ⟨xP0, xP1, xP2, xP3, xP4, xP5, xPf⟩ := row6 SP
    have lP := row_lt SP
    have mP := Nat.lt_succ_of_lt lP
    have nP := Nat.lt_succ_of_lt mP
    have RP := Lib.hid SP
    clear SP
    have Bw := Cw
    clear Cw
    have BW := CW
    clear CW
    have BD := CD
    clear CD
    clear hb
    go_wp2_with fail
    go_ret
    exact ⟨rfl, Bw⟩
  · have hz := szI_neg hq
    have hz2 : szI 1048576 (nHost d0) < 0 := by omega
    clear hz
    go_enter Tryz.func3, Tryz.ntmps3
    go_wp2_with (go_at_call 5; refine (c_laws_szHost d0 [.string d0.name, .slice A1 d0.labels.length a1, .int .i64 d0.cpu, .int .i64 d0.mem, .int .i64 d0.slots, .slice A5 d0.taints.length a5] _ _ _ (C_Host.now hC bel) (by omega) (by omega)).mono ?_; rintro e w1 ⟨rfl, hb⟩)
    go_ret
    exact ⟨rfl, bel⟩
end Go.Proofs.YteecgklmdfockaaGreatDoor
