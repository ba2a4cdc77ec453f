/- The walk of the law FnExactLabelsTree. No conditions. Written by wip/tools/genlawlabt.py. -/
import Derived.Test.YtipogknfbofbkaaLabT
import Derived.Test.YtipogknfbofbkaaLawTell
import Derived.Test.YtipogknfbofbkaaRowLabel
namespace Go.Proofs.Ytipogknfbofbkaa
open Go.RowKit

theorem cnt_labels (l : List Label) : cntT 2 (labelsT l) ≤ 4194304 := by
  unfold labelsT
  split
  · rename_i h
    have := labels_short h
    rw [cnt_pair]
    simp only [List.length_map]
    omega
  · rw [cnt_pair]; decide

set_option maxHeartbeats 4000000 in
set_option maxRecDepth 10000 in
theorem w_FnExactLabelsTree (d0 : List Label) (v0 : Value) (w : World) (h0 : R_Labels w d0 v0) :
    Calls Try.prog 8 #[v0] w fun e w' => e = .returned (.bool true) ∧ Below w.heap.size w w' := by
  have h1 := h0
  obtain ⟨A0, c0, rfl, -⟩ := h1
  by_cases hq : ((nL nLabel d0 : Nat) : Int) ≤ 1048576
  · have hz := szI_pos hq
    have hz2 : ¬ szI 1048576 (nL nLabel d0) < 0 := by omega
    have hn : d0.length ≤ 1048576 := by have := nL_def nLabel d0; omega
    obtain ⟨T, hT⟩ : ∃ T, T = labelsT d0 := ⟨_, rfl⟩
    have Hc : cntT 2 T ≤ 4194304 := by rw [hT]; exact cnt_labels _
    have HT := Lib.hid hT
    have HC := Lib.hid Hc
    clear hz hT Hc
    go_enter Try.func8, Try.ntmps8
    have Bw : Below w.heap.size w w := Below.refl _ _
    go_wp2_with fail
    refine (c_laws_szLabelS d0 _ _ _ _ h0 (by omega) (by omega)).mono ?_
    rintro e w1 ⟨rfl, hb⟩
    have z1 := hb.size
    (try simp at z1)
    have Cw : Below w.heap.size w w1 := Bw.trans (hb.mono (by first | omega | (simp; try omega)))
    have Bw := Cw
    clear Cw
    clear hb
    go_wp2_with fail
    refine (c_laws_toLabelS d0 _ _ _ (h0.now Bw) hn).mono ?_
    rintro e w2 ⟨A2, c2, rfl, hr2, hb⟩
    have z2 := hb.size
    (try simp at z2)
    have Cw : Below w.heap.size w w2 := Bw.trans (hb.mono (by first | omega | (simp; try omega)))
    clear Bw
    have Bw := Cw
    clear Cw
    clear hb
    go_wp2_with fail
    refine (c_spec_LabelsTree 0 d0 _ _ _ hr2).mono ?_
    rintro e w3 ⟨cs3, rfl, T3, hb⟩
    rw [← HT.out] at T3
    obtain ⟨D4, e4, D5, e5, rfl, -⟩ := T3.flat
    have z3 := hb.size
    (try simp at z3)
    have Cw : Below w.heap.size w w3 := Bw.trans (hb.mono (by first | omega | (simp; try omega)))
    have CW := T3.toC (fun b hb => hb)
    clear T3
    clear Bw
    have Bw := Cw
    clear Cw
    clear hb
    have BW : Below w3.heap.size w3 w3 := Below.refl _ _
    go_wp2_with fail
    refine (c_laws_toLabelSO d0 _ _ _ (h0.now (Bw.alloc (by first | omega | (simp; try omega)) _)) hn).mono ?_
    rintro e w4 ⟨A4, c4, rfl, O4, hb⟩
    have z4 := hb.size
    (try simp at z4)
    have SM : w4.heap[w3.heap.size]? = some (.cells #[.int .i64 T.kind, .bool T.flag, .int .i64 T.num, .string T.text, .slice D4 T.keys.length e4, .slice D5 T.kids.length e5] 40 (0, 0)) := (hb.block (w3.heap.size) (by first | omega | (simp; try omega))).trans (heap_at (by simp))
    have Cw : Below w.heap.size w w4 := (Bw.alloc (by first | omega | (simp; try omega)) _).trans (hb.mono (by first | omega | (simp; try omega)))
    have CW : Below w3.heap.size w3 w4 := (BW.alloc (by first | omega | (simp; try omega)) _).trans (hb.mono (by first | omega | (simp; try omega)))
    have OX := O4.carry (S' := fun b => w3.heap.size + 1 ≤ b ∧ b < w4.heap.size) (fun _ _ => rfl) (fun b hb => by simpa using hb)
    have CX := OX.toC (fun b hb => hb)
    clear O4
    clear Bw BW
    obtain ⟨xM0, xM1, xM2, xM3, xM4, xM5, xMf⟩ := row6 SM
    have lM := row_lt SM
    have mM := Nat.lt_succ_of_lt lM
    have nM := Nat.lt_succ_of_lt mM
    have RM := Lib.hid SM
    clear SM
    have Bw := Cw
    clear Cw
    have BW := CW
    clear CW
    clear hb
    have BX : Below w4.heap.size w4 w4 := Below.refl _ _
    go_wp2_with fail
    refine (c_impl_LabelsTree 0 d0 _ _ _ CX).mono ?_
    rintro e w5 ⟨cs5, rfl, TG, hb⟩
    rw [← HT.out] at TG
    obtain ⟨G4, i4, G5, i5, rfl, -⟩ := TG.flat
    have z5 := hb.size
    (try simp at z5)
    have SM : w5.heap[w3.heap.size]? = some (.cells #[.int .i64 T.kind, .bool T.flag, .int .i64 T.num, .string T.text, .slice D4 T.keys.length e4, .slice D5 T.kids.length e5] 40 (0, 0)) := (hb.block (w3.heap.size) (by first | omega | (simp; try omega))).trans RM.out
    have Cw : Below w.heap.size w w5 := Bw.trans (hb.mono (by first | omega | (simp; try omega)))
    have CW : Below w3.heap.size w3 w5 := BW.trans (hb.mono (by first | omega | (simp; try omega)))
    have CX : Below w4.heap.size w4 w5 := BX.trans (hb.mono (by first | omega | (simp; try omega)))
    have CG := TG.toC (fun b hb => hb)
    clear RM Bw BW BX xM0 xM1 xM2 xM3 xM4 xM5 xMf lM mM nM
    obtain ⟨xM0, xM1, xM2, xM3, xM4, xM5, xMf⟩ := row6 SM
    have lM := row_lt SM
    have mM := Nat.lt_succ_of_lt lM
    have nM := Nat.lt_succ_of_lt mM
    have RM := Lib.hid SM
    clear SM
    have Bw := Cw
    clear Cw
    have BW := CW
    clear CW
    have BX := CX
    clear CX
    clear hb
    have BG : Below w5.heap.size w5 w5 := Below.refl _ _
    go_wp2_with fail
    refine (all_eqTree 2 T _ _ _ _ _ (CG.now (BG.alloc (by first | omega | (simp; try omega)) _)) (CW.now (BW.alloc (by first | omega | (simp; try omega)) _))).mono ?_
    rintro e w6 ⟨rfl, hb⟩
    have z6 := hb.size
    (try simp at z6)
    have SM : w6.heap[w3.heap.size]? = some (.cells #[.int .i64 T.kind, .bool T.flag, .int .i64 T.num, .string T.text, .slice D4 T.keys.length e4, .slice D5 T.kids.length e5] 40 (0, 0)) := (hb.block (w3.heap.size) (by first | omega | (simp; try omega))).trans ((Below.heap_alloc _ _ _ (by first | omega | (simp; try omega))).trans RM.out)
    have SG : w6.heap[w5.heap.size]? = some (.cells #[.int .i64 T.kind, .bool T.flag, .int .i64 T.num, .string T.text, .slice G4 T.keys.length i4, .slice G5 T.kids.length i5] 40 (0, 0)) := (hb.block (w5.heap.size) (by first | omega | (simp; try omega))).trans (heap_at (by simp))
    have Cw : Below w.heap.size w w6 := (Bw.alloc (by first | omega | (simp; try omega)) _).trans (hb.mono (by first | omega | (simp; try omega)))
    have CW : Below w3.heap.size w3 w6 := (BW.alloc (by first | omega | (simp; try omega)) _).trans (hb.mono (by first | omega | (simp; try omega)))
    have CX : Below w4.heap.size w4 w6 := (BX.alloc (by first | omega | (simp; try omega)) _).trans (hb.mono (by first | omega | (simp; try omega)))
    have CG : Below w5.heap.size w5 w6 := (BG.alloc (by first | omega | (simp; try omega)) _).trans (hb.mono (by first | omega | (simp; try omega)))
    clear RM Bw BW BX BG xM0 xM1 xM2 xM3 xM4 xM5 xMf lM mM nM
    obtain ⟨xM0, xM1, xM2, xM3, xM4, xM5, xMf⟩ := row6 SM
    have lM := row_lt SM
    have mM := Nat.lt_succ_of_lt lM
    have nM := Nat.lt_succ_of_lt mM
    have RM := Lib.hid SM
    clear SM
    obtain ⟨xG0, xG1, xG2, xG3, xG4, xG5, xGf⟩ := row6 SG
    have lG := row_lt SG
    have mG := Nat.lt_succ_of_lt lG
    have nG := Nat.lt_succ_of_lt mG
    have RG := Lib.hid SG
    clear SG
    have Bw := Cw
    clear Cw
    have BW := CW
    clear CW
    have BX := CX
    clear CX
    have BG := CG
    clear CG
    clear hb
    go_wp2_with fail
    refine (c_laws_toLabelS d0 _ _ _ (h0.now Bw) hn).mono ?_
    rintro e w7 ⟨A7, c7, rfl, hr7, hb⟩
    have z7 := hb.size
    (try simp at z7)
    have SM : w7.heap[w3.heap.size]? = some (.cells #[.int .i64 T.kind, .bool T.flag, .int .i64 T.num, .string T.text, .slice D4 T.keys.length e4, .slice D5 T.kids.length e5] 40 (0, 0)) := (hb.block (w3.heap.size) (by first | omega | (simp; try omega))).trans RM.out
    have SG : w7.heap[w5.heap.size]? = some (.cells #[.int .i64 T.kind, .bool T.flag, .int .i64 T.num, .string T.text, .slice G4 T.keys.length i4, .slice G5 T.kids.length i5] 40 (0, 0)) := (hb.block (w5.heap.size) (by first | omega | (simp; try omega))).trans RG.out
    have Cw : Below w.heap.size w w7 := Bw.trans (hb.mono (by first | omega | (simp; try omega)))
    have CW : Below w3.heap.size w3 w7 := BW.trans (hb.mono (by first | omega | (simp; try omega)))
    have CX : Below w4.heap.size w4 w7 := BX.trans (hb.mono (by first | omega | (simp; try omega)))
    have CG : Below w5.heap.size w5 w7 := BG.trans (hb.mono (by first | omega | (simp; try omega)))
    clear RM RG Bw BW BX BG xM0 xM1 xM2 xM3 xM4 xM5 xG0 xG1 xG2 xG3 xG4 xG5 xMf xGf lM mM nM lG mG nG
    obtain ⟨xM0, xM1, xM2, xM3, xM4, xM5, xMf⟩ := row6 SM
    have lM := row_lt SM
    have mM := Nat.lt_succ_of_lt lM
    have nM := Nat.lt_succ_of_lt mM
    have RM := Lib.hid SM
    clear SM
    obtain ⟨xG0, xG1, xG2, xG3, xG4, xG5, xGf⟩ := row6 SG
    have lG := row_lt SG
    have mG := Nat.lt_succ_of_lt lG
    have nG := Nat.lt_succ_of_lt mG
    have RG := Lib.hid SG
    clear SG
    have Bw := Cw
    clear Cw
    have BW := CW
    clear CW
    have BX := CX
    clear CX
    have BG := CG
    clear CG
    clear hb
    go_wp2_with fail
    refine (c_laws_eqLabelS d0 _ _ _ _ _ (Sl_Label.now CX BX) hr7).mono ?_
    rintro e w8 ⟨rfl, hb⟩
    have z8 := hb.size
    (try simp at z8)
    have SM : w8.heap[w3.heap.size]? = some (.cells #[.int .i64 T.kind, .bool T.flag, .int .i64 T.num, .string T.text, .slice D4 T.keys.length e4, .slice D5 T.kids.length e5] 40 (0, 0)) := (hb.block (w3.heap.size) (by first | omega | (simp; try omega))).trans RM.out
    have SG : w8.heap[w5.heap.size]? = some (.cells #[.int .i64 T.kind, .bool T.flag, .int .i64 T.num, .string T.text, .slice G4 T.keys.length i4, .slice G5 T.kids.length i5] 40 (0, 0)) := (hb.block (w5.heap.size) (by first | omega | (simp; try omega))).trans RG.out
    have Cw : Below w.heap.size w w8 := Bw.trans (hb.mono (by first | omega | (simp; try omega)))
    have CW : Below w3.heap.size w3 w8 := BW.trans (hb.mono (by first | omega | (simp; try omega)))
    have CX : Below w4.heap.size w4 w8 := BX.trans (hb.mono (by first | omega | (simp; try omega)))
    have CG : Below w5.heap.size w5 w8 := BG.trans (hb.mono (by first | omega | (simp; try omega)))
    clear RM RG Bw BW BX BG xM0 xM1 xM2 xM3 xM4 xM5 xG0 xG1 xG2 xG3 xG4 xG5 xMf xGf lM mM nM lG mG nG
    obtain ⟨xM0, xM1, xM2, xM3, xM4, xM5, xMf⟩ := row6 SM
    have lM := row_lt SM
    have mM := Nat.lt_succ_of_lt lM
    have nM := Nat.lt_succ_of_lt mM
    have RM := Lib.hid SM
    clear SM
    obtain ⟨xG0, xG1, xG2, xG3, xG4, xG5, xGf⟩ := row6 SG
    have lG := row_lt SG
    have mG := Nat.lt_succ_of_lt lG
    have nG := Nat.lt_succ_of_lt mG
    have RG := Lib.hid SG
    clear SG
    have Bw := Cw
    clear Cw
    have BW := CW
    clear CW
    have BX := CX
    clear CX
    have BG := CG
    clear CG
    clear hb
    go_wp2_with fail
    refine (c_laws_markLabelS d0 _ _ _ _ (OX.carry (w' := w8) (fun b hb => BX.block b hb.2) (fun _ h => h)) (fun b hb => by omega) (by decide) (by omega)).mono ?_
    rintro e w9 ⟨l9, rfl, -, -, -, hb⟩
    have z9 := hb.size
    have SM : w9.heap[w3.heap.size]? = some (.cells #[.int .i64 T.kind, .bool T.flag, .int .i64 T.num, .string T.text, .slice D4 T.keys.length e4, .slice D5 T.kids.length e5] 40 (0, 0)) := (hb.block (w3.heap.size) (by omega) (by omega)).trans RM.out
    have SG : w9.heap[w5.heap.size]? = some (.cells #[.int .i64 T.kind, .bool T.flag, .int .i64 T.num, .string T.text, .slice G4 T.keys.length i4, .slice G5 T.kids.length i5] 40 (0, 0)) := (hb.block (w5.heap.size) (by omega) (by omega)).trans RG.out
    have Cw : Below w.heap.size w w9 := Bw.trans (hb.below (by omega) (fun i hi => by omega))
    have CW : Below w3.heap.size w3 w9 := BW.trans (hb.below (by omega) (fun i hi => by omega))
    have TG9 := TG.carry (w' := w9) (fun b hq => (hb.block b (by omega) (by omega)).trans (BG.block b hq.2)) (fun _ h => h)
    have CG9 := TG9.toC (lo := w4.heap.size) (hi := w9.heap.size) (fun b hq => ⟨hq.1, by omega⟩)
    have hk9 : ¬ (1 + 2 * (d0.length : Int)) < 0 := by omega
    clear TG CG CX OX
    clear RM RG Bw BW xM0 xM1 xM2 xM3 xM4 xM5 xG0 xG1 xG2 xG3 xG4 xG5 xMf xGf lM mM nM lG mG nG
    obtain ⟨xM0, xM1, xM2, xM3, xM4, xM5, xMf⟩ := row6 SM
    have lM := row_lt SM
    have mM := Nat.lt_succ_of_lt lM
    have nM := Nat.lt_succ_of_lt mM
    have RM := Lib.hid SM
    clear SM
    obtain ⟨xG0, xG1, xG2, xG3, xG4, xG5, xGf⟩ := row6 SG
    have lG := row_lt SG
    have mG := Nat.lt_succ_of_lt lG
    have nG := Nat.lt_succ_of_lt mG
    have RG := Lib.hid SG
    clear SG
    have Bw := Cw
    clear Cw
    have BW := CW
    clear CW
    clear hb
    go_wp2_with fail
    refine (all_eqTree 2 T _ _ _ _ _ CG9 (CW.now BW)).mono ?_
    rintro e w10 ⟨rfl, hb⟩
    have z10 := hb.size
    (try simp at z10)
    have SM : w10.heap[w3.heap.size]? = some (.cells #[.int .i64 T.kind, .bool T.flag, .int .i64 T.num, .string T.text, .slice D4 T.keys.length e4, .slice D5 T.kids.length e5] 40 (0, 0)) := (hb.block (w3.heap.size) (by first | omega | (simp; try omega))).trans RM.out
    have SG : w10.heap[w5.heap.size]? = some (.cells #[.int .i64 T.kind, .bool T.flag, .int .i64 T.num, .string T.text, .slice G4 T.keys.length i4, .slice G5 T.kids.length i5] 40 (0, 0)) := (hb.block (w5.heap.size) (by first | omega | (simp; try omega))).trans RG.out
    have Cw : Below w.heap.size w w10 := Bw.trans (hb.mono (by first | omega | (simp; try omega)))
    have CW : Below w3.heap.size w3 w10 := BW.trans (hb.mono (by first | omega | (simp; try omega)))
    have TG10 := TG9.carry (w' := w10) (fun b hq => hb.block b (by omega)) (fun _ h => h)
    clear TG9 CG9
    clear RM RG Bw BW xM0 xM1 xM2 xM3 xM4 xM5 xG0 xG1 xG2 xG3 xG4 xG5 xMf xGf lM mM nM lG mG nG
    obtain ⟨xM0, xM1, xM2, xM3, xM4, xM5, xMf⟩ := row6 SM
    have lM := row_lt SM
    have mM := Nat.lt_succ_of_lt lM
    have nM := Nat.lt_succ_of_lt mM
    have RM := Lib.hid SM
    clear SM
    obtain ⟨xG0, xG1, xG2, xG3, xG4, xG5, xGf⟩ := row6 SG
    have lG := row_lt SG
    have mG := Nat.lt_succ_of_lt lG
    have nG := Nat.lt_succ_of_lt mG
    have RG := Lib.hid SG
    clear SG
    have Bw := Cw
    clear Cw
    have BW := CW
    clear CW
    clear hb
    go_wp2_with fail
    refine (all_mark 2 T _ _ _ _ TG10 (fun b hb => by omega) (by decide) (by have := HC.out; omega)).mono ?_
    rintro e w11 ⟨g0d, rfl, TG11, MG, EG, hb⟩
    have z11 := hb.size
    have SM : w11.heap[w3.heap.size]? = some (.cells #[.int .i64 T.kind, .bool T.flag, .int .i64 T.num, .string T.text, .slice D4 T.keys.length e4, .slice D5 T.kids.length e5] 40 (0, 0)) := (hb.block (w3.heap.size) (by omega) (by omega)).trans RM.out
    have SG : w11.heap[w5.heap.size]? = some (.cells #[.int .i64 T.kind, .bool T.flag, .int .i64 T.num, .string T.text, .slice G4 T.keys.length i4, .slice G5 T.kids.length i5] 40 (0, 0)) := (hb.block (w5.heap.size) (by omega) (by omega)).trans RG.out
    have Cw : Below w.heap.size w w11 := Bw.trans (hb.below (by omega) (fun i hi => by omega))
    have CW : Below w3.heap.size w3 w11 := BW.trans (hb.below (by omega) (fun i hi => by omega))
    have CG11 := TG11.toC (lo := w4.heap.size) (hi := w11.heap.size) (fun b hq => ⟨hq.1, by omega⟩)
    have HE := Lib.hid EG
    have HM := Lib.hid MG
    clear TG10 TG11 EG MG
    clear RM RG Bw BW xM0 xM1 xM2 xM3 xM4 xM5 xG0 xG1 xG2 xG3 xG4 xG5 xMf xGf lM mM nM lG mG nG
    obtain ⟨xM0, xM1, xM2, xM3, xM4, xM5, xMf⟩ := row6 SM
    have lM := row_lt SM
    have mM := Nat.lt_succ_of_lt lM
    have nM := Nat.lt_succ_of_lt mM
    have RM := Lib.hid SM
    clear SM
    obtain ⟨xG0, xG1, xG2, xG3, xG4, xG5, xGf⟩ := row6 SG
    have lG := row_lt SG
    have mG := Nat.lt_succ_of_lt lG
    have nG := Nat.lt_succ_of_lt mG
    have RG := Lib.hid SG
    clear SG
    have Bw := Cw
    clear Cw
    have BW := CW
    clear CW
    clear hb
    have BD : Below w11.heap.size w11 w11 := Below.refl _ _
    obtain ⟨cg, hcg⟩ : ∃ cg : Int, cg = (cntT 2 T : Int) := ⟨_, rfl⟩
    have Hcg := Lib.hid hcg
    have hcg0 : 0 ≤ cg := by omega
    have hcg1 : cg ≤ 4194304 := by have := HC.out; omega
    rw [← hcg]
    clear hcg
    go_wp2_with fail
    refine (c_laws_heldTree 2 g0d _ _ _ _ CG11 HM.out (by decide) (by have := HE.out; have := Hcg.out; omega)).mono ?_
    rintro e w12 ⟨rfl, hb⟩
    rw [HE.out, ← Hcg.out]
    have z12 := hb.size
    (try simp at z12)
    have SM : w12.heap[w3.heap.size]? = some (.cells #[.int .i64 T.kind, .bool T.flag, .int .i64 T.num, .string T.text, .slice D4 T.keys.length e4, .slice D5 T.kids.length e5] 40 (0, 0)) := (hb.block (w3.heap.size) (by first | omega | (simp; try omega))).trans RM.out
    have SG : w12.heap[w5.heap.size]? = some (.cells #[.int .i64 T.kind, .bool T.flag, .int .i64 T.num, .string T.text, .slice G4 T.keys.length i4, .slice G5 T.kids.length i5] 40 (0, 0)) := (hb.block (w5.heap.size) (by first | omega | (simp; try omega))).trans RG.out
    have Cw : Below w.heap.size w w12 := Bw.trans (hb.mono (by first | omega | (simp; try omega)))
    have CW : Below w3.heap.size w3 w12 := BW.trans (hb.mono (by first | omega | (simp; try omega)))
    have CD : Below w11.heap.size w11 w12 := BD.trans (hb.mono (by first | omega | (simp; try omega)))
    clear RM RG Bw BW BD xM0 xM1 xM2 xM3 xM4 xM5 xG0 xG1 xG2 xG3 xG4 xG5 xMf xGf lM mM nM lG mG nG
    obtain ⟨xM0, xM1, xM2, xM3, xM4, xM5, xMf⟩ := row6 SM
    have lM := row_lt SM
    have mM := Nat.lt_succ_of_lt lM
    have nM := Nat.lt_succ_of_lt mM
    have RM := Lib.hid SM
    clear SM
    obtain ⟨xG0, xG1, xG2, xG3, xG4, xG5, xGf⟩ := row6 SG
    have lG := row_lt SG
    have mG := Nat.lt_succ_of_lt lG
    have nG := Nat.lt_succ_of_lt mG
    have RG := Lib.hid SG
    clear SG
    have Bw := Cw
    clear Cw
    have BW := CW
    clear CW
    have BD := CD
    clear CD
    clear hb
    go_wp2_with fail
    refine (c_laws_toLabelS d0 _ _ _ (h0.now Bw) hn).mono ?_
    rintro e w13 ⟨A13, c13, rfl, hr13, hb⟩
    have z13 := hb.size
    (try simp at z13)
    have SM : w13.heap[w3.heap.size]? = some (.cells #[.int .i64 T.kind, .bool T.flag, .int .i64 T.num, .string T.text, .slice D4 T.keys.length e4, .slice D5 T.kids.length e5] 40 (0, 0)) := (hb.block (w3.heap.size) (by first | omega | (simp; try omega))).trans RM.out
    have SG : w13.heap[w5.heap.size]? = some (.cells #[.int .i64 T.kind, .bool T.flag, .int .i64 T.num, .string T.text, .slice G4 T.keys.length i4, .slice G5 T.kids.length i5] 40 (0, 0)) := (hb.block (w5.heap.size) (by first | omega | (simp; try omega))).trans RG.out
    have Cw : Below w.heap.size w w13 := Bw.trans (hb.mono (by first | omega | (simp; try omega)))
    have CW : Below w3.heap.size w3 w13 := BW.trans (hb.mono (by first | omega | (simp; try omega)))
    have CD : Below w11.heap.size w11 w13 := BD.trans (hb.mono (by first | omega | (simp; try omega)))
    clear RM RG Bw BW BD xM0 xM1 xM2 xM3 xM4 xM5 xG0 xG1 xG2 xG3 xG4 xG5 xMf xGf lM mM nM lG mG nG
    obtain ⟨xM0, xM1, xM2, xM3, xM4, xM5, xMf⟩ := row6 SM
    have lM := row_lt SM
    have mM := Nat.lt_succ_of_lt lM
    have nM := Nat.lt_succ_of_lt mM
    have RM := Lib.hid SM
    clear SM
    obtain ⟨xG0, xG1, xG2, xG3, xG4, xG5, xGf⟩ := row6 SG
    have lG := row_lt SG
    have mG := Nat.lt_succ_of_lt lG
    have nG := Nat.lt_succ_of_lt mG
    have RG := Lib.hid SG
    clear SG
    have Bw := Cw
    clear Cw
    have BW := CW
    clear CW
    have BD := CD
    clear CD
    clear hb
    go_wp2_with fail
    refine (c_impl_LabelsTree 0 d0 _ _ _ hr13).mono ?_
    rintro e w14 ⟨cs14, rfl, T14, hb⟩
    rw [← HT.out] at T14
    obtain ⟨Q4, r4, Q5, r5, rfl, -⟩ := T14.flat
    have z14 := hb.size
    (try simp at z14)
    have SM : w14.heap[w3.heap.size]? = some (.cells #[.int .i64 T.kind, .bool T.flag, .int .i64 T.num, .string T.text, .slice D4 T.keys.length e4, .slice D5 T.kids.length e5] 40 (0, 0)) := (hb.block (w3.heap.size) (by first | omega | (simp; try omega))).trans RM.out
    have SG : w14.heap[w5.heap.size]? = some (.cells #[.int .i64 T.kind, .bool T.flag, .int .i64 T.num, .string T.text, .slice G4 T.keys.length i4, .slice G5 T.kids.length i5] 40 (0, 0)) := (hb.block (w5.heap.size) (by first | omega | (simp; try omega))).trans RG.out
    have Cw : Below w.heap.size w w14 := Bw.trans (hb.mono (by first | omega | (simp; try omega)))
    have CW : Below w3.heap.size w3 w14 := BW.trans (hb.mono (by first | omega | (simp; try omega)))
    have CD : Below w11.heap.size w11 w14 := BD.trans (hb.mono (by first | omega | (simp; try omega)))
    have CH := T14.toC (fun b hb => hb)
    clear T14
    clear RM RG Bw BW BD xM0 xM1 xM2 xM3 xM4 xM5 xG0 xG1 xG2 xG3 xG4 xG5 xMf xGf lM mM nM lG mG nG
    obtain ⟨xM0, xM1, xM2, xM3, xM4, xM5, xMf⟩ := row6 SM
    have lM := row_lt SM
    have mM := Nat.lt_succ_of_lt lM
    have nM := Nat.lt_succ_of_lt mM
    have RM := Lib.hid SM
    clear SM
    obtain ⟨xG0, xG1, xG2, xG3, xG4, xG5, xGf⟩ := row6 SG
    have lG := row_lt SG
    have mG := Nat.lt_succ_of_lt lG
    have nG := Nat.lt_succ_of_lt mG
    have RG := Lib.hid SG
    clear SG
    have Bw := Cw
    clear Cw
    have BW := CW
    clear CW
    have BD := CD
    clear CD
    clear hb
    go_wp2_with fail
    refine (all_eqTree 2 T _ _ _ _ _ (CH.now ((Below.refl _ _).alloc (Nat.le_refl _) _)) (CW.now (BW.alloc (by first | omega | (simp; try omega)) _))).mono ?_
    rintro e w15 ⟨rfl, hb⟩
    have z15 := hb.size
    (try simp at z15)
    have SM : w15.heap[w3.heap.size]? = some (.cells #[.int .i64 T.kind, .bool T.flag, .int .i64 T.num, .string T.text, .slice D4 T.keys.length e4, .slice D5 T.kids.length e5] 40 (0, 0)) := (hb.block (w3.heap.size) (by first | omega | (simp; try omega))).trans ((Below.heap_alloc _ _ _ (by first | omega | (simp; try omega))).trans RM.out)
    have SG : w15.heap[w5.heap.size]? = some (.cells #[.int .i64 T.kind, .bool T.flag, .int .i64 T.num, .string T.text, .slice G4 T.keys.length i4, .slice G5 T.kids.length i5] 40 (0, 0)) := (hb.block (w5.heap.size) (by first | omega | (simp; try omega))).trans ((Below.heap_alloc _ _ _ (by first | omega | (simp; try omega))).trans RG.out)
    have SP : w15.heap[w14.heap.size]? = some (.cells #[.int .i64 T.kind, .bool T.flag, .int .i64 T.num, .string T.text, .slice Q4 T.keys.length r4, .slice Q5 T.kids.length r5] 40 (0, 0)) := (hb.block (w14.heap.size) (by first | omega | (simp; try omega))).trans (heap_at (by simp))
    have Cw : Below w.heap.size w w15 := (Bw.alloc (by first | omega | (simp; try omega)) _).trans (hb.mono (by first | omega | (simp; try omega)))
    have CW : Below w3.heap.size w3 w15 := (BW.alloc (by first | omega | (simp; try omega)) _).trans (hb.mono (by first | omega | (simp; try omega)))
    have CD : Below w11.heap.size w11 w15 := (BD.alloc (by first | omega | (simp; try omega)) _).trans (hb.mono (by first | omega | (simp; try omega)))
    clear RM RG Bw BW BD xM0 xM1 xM2 xM3 xM4 xM5 xG0 xG1 xG2 xG3 xG4 xG5 xMf xGf lM mM nM lG mG nG
    obtain ⟨xM0, xM1, xM2, xM3, xM4, xM5, xMf⟩ := row6 SM
    have lM := row_lt SM
    have mM := Nat.lt_succ_of_lt lM
    have nM := Nat.lt_succ_of_lt mM
    have RM := Lib.hid SM
    clear SM
    obtain ⟨xG0, xG1, xG2, xG3, xG4, xG5, xGf⟩ := row6 SG
    have lG := row_lt SG
    have mG := Nat.lt_succ_of_lt lG
    have nG := Nat.lt_succ_of_lt mG
    have RG := Lib.hid SG
    clear SG
    obtain ⟨xP0, xP1, xP2, xP3, xP4, xP5, xPf⟩ := row6 SP
    have lP := row_lt SP
    have mP := Nat.lt_succ_of_lt lP
    have nP := Nat.lt_succ_of_lt mP
    have RP := Lib.hid SP
    clear SP
    have Bw := Cw
    clear Cw
    have BW := CW
    clear CW
    have BD := CD
    clear CD
    clear hb
    go_wp2_with fail
    refine (c_laws_heldTree 2 g0d _ _ _ _ (CG11.now BD) HM.out (by decide) (by have := HE.out; have := Hcg.out; omega)).mono ?_
    rintro e w16 ⟨rfl, hb⟩
    rw [HE.out, ← Hcg.out]
    have z16 := hb.size
    (try simp at z16)
    have SM : w16.heap[w3.heap.size]? = some (.cells #[.int .i64 T.kind, .bool T.flag, .int .i64 T.num, .string T.text, .slice D4 T.keys.length e4, .slice D5 T.kids.length e5] 40 (0, 0)) := (hb.block (w3.heap.size) (by first | omega | (simp; try omega))).trans RM.out
    have SG : w16.heap[w5.heap.size]? = some (.cells #[.int .i64 T.kind, .bool T.flag, .int .i64 T.num, .string T.text, .slice G4 T.keys.length i4, .slice G5 T.kids.length i5] 40 (0, 0)) := (hb.block (w5.heap.size) (by first | omega | (simp; try omega))).trans RG.out
    have SP : w16.heap[w14.heap.size]? = some (.cells #[.int .i64 T.kind, .bool T.flag, .int .i64 T.num, .string T.text, .slice Q4 T.keys.length r4, .slice Q5 T.kids.length r5] 40 (0, 0)) := (hb.block (w14.heap.size) (by first | omega | (simp; try omega))).trans RP.out
    have Cw : Below w.heap.size w w16 := Bw.trans (hb.mono (by first | omega | (simp; try omega)))
    have CW : Below w3.heap.size w3 w16 := BW.trans (hb.mono (by first | omega | (simp; try omega)))
    have CD : Below w11.heap.size w11 w16 := BD.trans (hb.mono (by first | omega | (simp; try omega)))
    clear RM RG RP Bw BW BD xM0 xM1 xM2 xM3 xM4 xM5 xG0 xG1 xG2 xG3 xG4 xG5 xP0 xP1 xP2 xP3 xP4 xP5 xMf xGf xPf lM mM nM lG mG nG lP mP nP
    obtain ⟨xM0, xM1, xM2, xM3, xM4, xM5, xMf⟩ := row6 SM
    have lM := row_lt SM
    have mM := Nat.lt_succ_of_lt lM
    have nM := Nat.lt_succ_of_lt mM
    have RM := Lib.hid SM
    clear SM
    obtain ⟨xG0, xG1, xG2, xG3, xG4, xG5, xGf⟩ := row6 SG
    have lG := row_lt SG
    have mG := Nat.lt_succ_of_lt lG
    have nG := Nat.lt_succ_of_lt mG
    have RG := Lib.hid SG
    clear SG
    obtain ⟨xP0, xP1, xP2, xP3, xP4, xP5, xPf⟩ := row6 SP
    have lP := row_lt SP
    have mP := Nat.lt_succ_of_lt lP
    have nP := Nat.lt_succ_of_lt mP
    have RP := Lib.hid SP
    clear SP
    have Bw := Cw
    clear Cw
    have BW := CW
    clear CW
    have BD := CD
    clear CD
    clear hb
    go_wp2_with fail
    go_ret
    exact ⟨rfl, Bw⟩
  · have hz := szI_neg hq
    have hz2 : szI 1048576 (nL nLabel d0) < 0 := by omega
    clear hz
    go_enter Try.func8, Try.ntmps8
    go_wp2_with (go_at_call 30; refine (c_laws_szLabelS d0 _ _ _ _ h0 (by omega) (by omega)).mono ?_; rintro e w1 ⟨rfl, hb⟩)
    go_ret
    exact ⟨rfl, (by repeat (first | (with_reducible exact Below.refl _ _) | (with_reducible refine ext_alloc ?_) | ((with_reducible refine ext_setCell ?_ ?_); focus (simp; (try omega))) | (with_reducible refine below_drewN ?_ _) | (with_reducible refine Below.drew ?_) | (with_reducible (apply ext_step; assumption))))⟩
end Go.Proofs.Ytipogknfbofbkaa
