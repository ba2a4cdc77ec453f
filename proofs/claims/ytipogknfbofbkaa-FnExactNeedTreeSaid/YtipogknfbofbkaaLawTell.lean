/- The walks of the laws FnExactTaintTree and FnExactToleranceTree. No conditions. Written by wip/tools/genlawtell.py. -/
import Derived.Test.YtipogknfbofbkaaPair
import Derived.Test.YtipogknfbofbkaaMarkT
import Derived.Test.YtipogknfbofbkaaHTaint
import Derived.Test.YtipogknfbofbkaaHTolerance
namespace Go.Proofs.Ytipogknfbofbkaa
open Go.RowKit

theorem cntL_leaf : ∀ ts : List ByteArray, cntL 1 (ts.map leafD) = 4 * ts.length
  | [] => rfl
  | t :: ts => by
    have h : cntT 1 (leafD t) = 0 := by rw [cntT_succ]; rfl
    show 4 + cntT 1 (leafD t) + cntL 1 (ts.map leafD) = 4 * (ts.length + 1)
    rw [h, cntL_leaf ts]
    omega
theorem cnt_pair (ks ts : List ByteArray) : cntT 2 (pairT ks ts) = ks.length + 4 * ts.length := by
  rw [cntT_succ]
  show ks.length + cntL 1 (ts.map leafD) = _
  rw [cntL_leaf]
theorem cnt_none : cntT 2 tree0 = 0 := by rw [cntT_succ]; rfl
theorem optL_len (b : Bool) (s : ByteArray) : (optL b s).length ≤ 1 := by cases b <;> simp [optL]
theorem cnt_taint (k v : ByteArray) (x : Int) : cntT 2 (taintT k v x) ≤ 4194304 := by
  unfold taintT
  split
  · rw [cnt_pair]
    have := optL_len (!v.toList.isEmpty) wValue
    have := optL_len (!v.toList.isEmpty) v
    simp only [List.length_append, List.length_cons, List.length_nil]
    omega
  · rw [cnt_none]; decide
theorem cnt_tol (k : ByteArray) (q : Bool) (v : ByteArray) (x : Int) : cntT 2 (tolT k q v x) ≤ 4194304 := by
  unfold tolT
  split
  · rw [cnt_pair]
    have := optL_len (x != 0) wEffect
    have := optL_len (x != 0) (effW x)
    have := optL_len (!k.toList.isEmpty) wKey
    have := optL_len (!k.toList.isEmpty) k
    have := optL_len q wValue
    have := optL_len q v
    simp only [List.length_append]
    omega
  · rw [cnt_none]; decide

set_option maxHeartbeats 4000000 in
set_option maxRecDepth 10000 in
theorem w_FnExactTaintTree (d0 : Taint) (v0 : Value) (w : World) (h0 : R_Taint w d0 v0) :
    Calls Try.prog 4 #[v0] w fun e w' => e = .returned (.bool true) ∧ Below w.heap.size w w' := by
  obtain ⟨cs, rfl, hC⟩ := h0
  have hC2 := hC
  obtain ⟨rfl, hk, hv, he⟩ := hC2
  by_cases hq : ((nTaint d0 : Nat) : Int) ≤ 1048576
  · have hz := szI_pos hq
    have hz2 : ¬ szI 1048576 (nTaint d0) < 0 := by omega
    obtain ⟨T, hT⟩ : ∃ T, T = taintT d0.key d0.value d0.effect := ⟨_, rfl⟩
    have Hc : cntT 2 T ≤ 4194304 := by rw [hT]; exact cnt_taint _ _ _
    have HT := Lib.hid hT
    have HC := Lib.hid Hc
    have HCC := Lib.hid hC
    clear hz hT Hc hC
    go_enter Try.func4, Try.ntmps4
    have Bw : Below w.heap.size w w := Below.refl _ _
    go_wp2_with fail
    refine (c_laws_szTaint d0 _ _ _ HCC.out (by omega) (by omega)).mono ?_
    rintro e w1 ⟨rfl, hb⟩
    have z1 := hb.size
    (try simp at z1)
    have SA : w1.heap[w.heap.size]? = some (.cells #[.string d0.key, .string d0.value, .int .i64 d0.effect] 35 (0, 0)) := (hb.block (w.heap.size) (by first | omega | (simp; try omega))).trans (heap_at (by simp))
    have Cw : Below w.heap.size w w1 := (Bw.alloc (by first | omega | (simp; try omega)) _).trans (hb.mono (by first | omega | (simp; try omega)))
    obtain ⟨xA0, xA1, xA2, xAf⟩ := row3 SA
    have lA := row_lt SA
    have mA := Nat.lt_succ_of_lt lA
    have nA := Nat.lt_succ_of_lt mA
    have RA := Lib.hid SA
    clear SA
    have Bw := Cw
    clear Cw
    clear hb
    go_wp2_with fail
    refine (c_laws_toTaint d0 _ _ HCC.out).mono ?_
    rintro e w2 ⟨rfl, hb⟩
    have z2 := hb.size
    (try simp at z2)
    have SA : w2.heap[w.heap.size]? = some (.cells #[.string d0.key, .string d0.value, .int .i64 d0.effect] 35 (0, 0)) := (hb.block (w.heap.size) (by first | omega | (simp; try omega))).trans RA.out
    have Cw : Below w.heap.size w w2 := Bw.trans (hb.mono (by first | omega | (simp; try omega)))
    clear RA Bw xA0 xA1 xA2 xAf lA mA nA
    obtain ⟨xA0, xA1, xA2, xAf⟩ := row3 SA
    have lA := row_lt SA
    have mA := Nat.lt_succ_of_lt lA
    have nA := Nat.lt_succ_of_lt mA
    have RA := Lib.hid SA
    clear SA
    have Bw := Cw
    clear Cw
    clear hb
    go_wp2_with fail
    refine (c_spec_TaintTree 0 d0.key d0.value d0.effect _ hk hv).mono ?_
    rintro e w3 ⟨cs3, rfl, T3, hb⟩
    rw [← HT.out] at T3
    obtain ⟨D4, e4, D5, e5, rfl, -⟩ := T3.flat
    have z3 := hb.size
    (try simp at z3)
    have SA : w3.heap[w.heap.size]? = some (.cells #[.string d0.key, .string d0.value, .int .i64 d0.effect] 35 (0, 0)) := (hb.block (w.heap.size) (by first | omega | (simp; try omega))).trans RA.out
    have Cw : Below w.heap.size w w3 := Bw.trans (hb.mono (by first | omega | (simp; try omega)))
    have CW := T3.toC (fun b hb => hb)
    clear T3
    clear RA Bw xA0 xA1 xA2 xAf lA mA nA
    obtain ⟨xA0, xA1, xA2, xAf⟩ := row3 SA
    have lA := row_lt SA
    have mA := Nat.lt_succ_of_lt lA
    have nA := Nat.lt_succ_of_lt mA
    have RA := Lib.hid SA
    clear SA
    have Bw := Cw
    clear Cw
    clear hb
    have BW : Below w3.heap.size w3 w3 := Below.refl _ _
    go_wp2_with fail
    refine (c_laws_toTaint d0 _ _ HCC.out).mono ?_
    rintro e w4 ⟨rfl, hb⟩
    have z4 := hb.size
    (try simp at z4)
    have SA : w4.heap[w.heap.size]? = some (.cells #[.string d0.key, .string d0.value, .int .i64 d0.effect] 35 (0, 0)) := (hb.block (w.heap.size) (by first | omega | (simp; try omega))).trans ((Below.heap_alloc _ _ _ (by first | omega | (simp; try omega))).trans RA.out)
    have SM : w4.heap[w3.heap.size]? = some (.cells #[.int .i64 T.kind, .bool T.flag, .int .i64 T.num, .string T.text, .slice D4 T.keys.length e4, .slice D5 T.kids.length e5] 40 (0, 0)) := (hb.block (w3.heap.size) (by first | omega | (simp; try omega))).trans (heap_at (by simp))
    have Cw : Below w.heap.size w w4 := (Bw.alloc (by first | omega | (simp; try omega)) _).trans (hb.mono (by first | omega | (simp; try omega)))
    have CW : Below w3.heap.size w3 w4 := (BW.alloc (by first | omega | (simp; try omega)) _).trans (hb.mono (by first | omega | (simp; try omega)))
    clear RA Bw BW xA0 xA1 xA2 xAf lA mA nA
    obtain ⟨xA0, xA1, xA2, xAf⟩ := row3 SA
    have lA := row_lt SA
    have mA := Nat.lt_succ_of_lt lA
    have nA := Nat.lt_succ_of_lt mA
    have RA := Lib.hid SA
    clear SA
    obtain ⟨xM0, xM1, xM2, xM3, xM4, xM5, xMf⟩ := row6 SM
    have lM := row_lt SM
    have mM := Nat.lt_succ_of_lt lM
    have nM := Nat.lt_succ_of_lt mM
    have RM := Lib.hid SM
    clear SM
    have Bw := Cw
    clear Cw
    have BW := CW
    clear CW
    clear hb
    go_wp2_with fail
    refine (c_impl_TaintTree 0 d0.key d0.value d0.effect _ hk hv).mono ?_
    rintro e w5 ⟨cs5, rfl, TG, hb⟩
    rw [← HT.out] at TG
    obtain ⟨G4, i4, G5, i5, rfl, -⟩ := TG.flat
    have z5 := hb.size
    (try simp at z5)
    have SA : w5.heap[w.heap.size]? = some (.cells #[.string d0.key, .string d0.value, .int .i64 d0.effect] 35 (0, 0)) := (hb.block (w.heap.size) (by first | omega | (simp; try omega))).trans RA.out
    have SM : w5.heap[w3.heap.size]? = some (.cells #[.int .i64 T.kind, .bool T.flag, .int .i64 T.num, .string T.text, .slice D4 T.keys.length e4, .slice D5 T.kids.length e5] 40 (0, 0)) := (hb.block (w3.heap.size) (by first | omega | (simp; try omega))).trans RM.out
    have Cw : Below w.heap.size w w5 := Bw.trans (hb.mono (by first | omega | (simp; try omega)))
    have CW : Below w3.heap.size w3 w5 := BW.trans (hb.mono (by first | omega | (simp; try omega)))
    have CG := TG.toC (fun b hb => hb)
    clear RA RM Bw BW xA0 xA1 xA2 xM0 xM1 xM2 xM3 xM4 xM5 xAf xMf lA mA nA lM mM nM
    obtain ⟨xA0, xA1, xA2, xAf⟩ := row3 SA
    have lA := row_lt SA
    have mA := Nat.lt_succ_of_lt lA
    have nA := Nat.lt_succ_of_lt mA
    have RA := Lib.hid SA
    clear SA
    obtain ⟨xM0, xM1, xM2, xM3, xM4, xM5, xMf⟩ := row6 SM
    have lM := row_lt SM
    have mM := Nat.lt_succ_of_lt lM
    have nM := Nat.lt_succ_of_lt mM
    have RM := Lib.hid SM
    clear SM
    have Bw := Cw
    clear Cw
    have BW := CW
    clear CW
    clear hb
    have BG : Below w5.heap.size w5 w5 := Below.refl _ _
    go_wp2_with fail
    refine (all_eqTree 2 T _ _ _ _ _ (CG.now (BG.alloc (by first | omega | (simp; try omega)) _)) (CW.now (BW.alloc (by first | omega | (simp; try omega)) _))).mono ?_
    rintro e w6 ⟨rfl, hb⟩
    have z6 := hb.size
    (try simp at z6)
    have SA : w6.heap[w.heap.size]? = some (.cells #[.string d0.key, .string d0.value, .int .i64 d0.effect] 35 (0, 0)) := (hb.block (w.heap.size) (by first | omega | (simp; try omega))).trans ((Below.heap_alloc _ _ _ (by first | omega | (simp; try omega))).trans RA.out)
    have SM : w6.heap[w3.heap.size]? = some (.cells #[.int .i64 T.kind, .bool T.flag, .int .i64 T.num, .string T.text, .slice D4 T.keys.length e4, .slice D5 T.kids.length e5] 40 (0, 0)) := (hb.block (w3.heap.size) (by first | omega | (simp; try omega))).trans ((Below.heap_alloc _ _ _ (by first | omega | (simp; try omega))).trans RM.out)
    have SG : w6.heap[w5.heap.size]? = some (.cells #[.int .i64 T.kind, .bool T.flag, .int .i64 T.num, .string T.text, .slice G4 T.keys.length i4, .slice G5 T.kids.length i5] 40 (0, 0)) := (hb.block (w5.heap.size) (by first | omega | (simp; try omega))).trans (heap_at (by simp))
    have Cw : Below w.heap.size w w6 := (Bw.alloc (by first | omega | (simp; try omega)) _).trans (hb.mono (by first | omega | (simp; try omega)))
    have CW : Below w3.heap.size w3 w6 := (BW.alloc (by first | omega | (simp; try omega)) _).trans (hb.mono (by first | omega | (simp; try omega)))
    have CG : Below w5.heap.size w5 w6 := (BG.alloc (by first | omega | (simp; try omega)) _).trans (hb.mono (by first | omega | (simp; try omega)))
    clear RA RM Bw BW BG xA0 xA1 xA2 xM0 xM1 xM2 xM3 xM4 xM5 xAf xMf lA mA nA lM mM nM
    obtain ⟨xA0, xA1, xA2, xAf⟩ := row3 SA
    have lA := row_lt SA
    have mA := Nat.lt_succ_of_lt lA
    have nA := Nat.lt_succ_of_lt mA
    have RA := Lib.hid SA
    clear SA
    obtain ⟨xM0, xM1, xM2, xM3, xM4, xM5, xMf⟩ := row6 SM
    have lM := row_lt SM
    have mM := Nat.lt_succ_of_lt lM
    have nM := Nat.lt_succ_of_lt mM
    have RM := Lib.hid SM
    clear SM
    obtain ⟨xG0, xG1, xG2, xG3, xG4, xG5, xGf⟩ := row6 SG
    have lG := row_lt SG
    have mG := Nat.lt_succ_of_lt lG
    have nG := Nat.lt_succ_of_lt mG
    have RG := Lib.hid SG
    clear SG
    have Bw := Cw
    clear Cw
    have BW := CW
    clear CW
    have BG := CG
    clear CG
    clear hb
    go_wp2_with fail
    refine (all_mark 2 T _ _ _ _ (TG.carry (w' := w6) (fun b hq => BG.block b hq.2) (fun _ h => h)) (fun b hb => by omega) (by decide) (by have := HC.out; omega)).mono ?_
    rintro e w7 ⟨g0d, rfl, TG7, MG, EG, hb⟩
    have z7 := hb.size
    have SA : w7.heap[w.heap.size]? = some (.cells #[.string d0.key, .string d0.value, .int .i64 d0.effect] 35 (0, 0)) := (hb.block (w.heap.size) (by omega) (by omega)).trans RA.out
    have SM : w7.heap[w3.heap.size]? = some (.cells #[.int .i64 T.kind, .bool T.flag, .int .i64 T.num, .string T.text, .slice D4 T.keys.length e4, .slice D5 T.kids.length e5] 40 (0, 0)) := (hb.block (w3.heap.size) (by omega) (by omega)).trans RM.out
    have SG : w7.heap[w5.heap.size]? = some (.cells #[.int .i64 T.kind, .bool T.flag, .int .i64 T.num, .string T.text, .slice G4 T.keys.length i4, .slice G5 T.kids.length i5] 40 (0, 0)) := (hb.block (w5.heap.size) (by omega) (by omega)).trans RG.out
    have Cw : Below w.heap.size w w7 := Bw.trans (hb.below (by omega) (fun i hi => by omega))
    have CW : Below w3.heap.size w3 w7 := BW.trans (hb.below (by omega) (fun i hi => by omega))
    have CG7 := TG7.toC (lo := w4.heap.size) (hi := w7.heap.size) (fun b hq => ⟨hq.1, by omega⟩)
    have HE := Lib.hid EG
    have HM := Lib.hid MG
    clear TG CG TG7 EG MG
    clear RA RM RG Bw BW xA0 xA1 xA2 xM0 xM1 xM2 xM3 xM4 xM5 xG0 xG1 xG2 xG3 xG4 xG5 xAf xMf xGf lA mA nA lM mM nM lG mG nG
    obtain ⟨xA0, xA1, xA2, xAf⟩ := row3 SA
    have lA := row_lt SA
    have mA := Nat.lt_succ_of_lt lA
    have nA := Nat.lt_succ_of_lt mA
    have RA := Lib.hid SA
    clear SA
    obtain ⟨xM0, xM1, xM2, xM3, xM4, xM5, xMf⟩ := row6 SM
    have lM := row_lt SM
    have mM := Nat.lt_succ_of_lt lM
    have nM := Nat.lt_succ_of_lt mM
    have RM := Lib.hid SM
    clear SM
    obtain ⟨xG0, xG1, xG2, xG3, xG4, xG5, xGf⟩ := row6 SG
    have lG := row_lt SG
    have mG := Nat.lt_succ_of_lt lG
    have nG := Nat.lt_succ_of_lt mG
    have RG := Lib.hid SG
    clear SG
    have Bw := Cw
    clear Cw
    have BW := CW
    clear CW
    clear hb
    have BD : Below w7.heap.size w7 w7 := Below.refl _ _
    obtain ⟨cg, hcg⟩ : ∃ cg : Int, cg = (cntT 2 T : Int) := ⟨_, rfl⟩
    have Hcg := Lib.hid hcg
    have hcg0 : 0 ≤ cg := by omega
    have hcg1 : cg ≤ 4194304 := by have := HC.out; omega
    rw [← hcg]
    clear hcg
    go_wp2_with fail
    refine (c_laws_heldTree 2 g0d _ _ _ _ CG7 HM.out (by decide) (by have := HE.out; have := Hcg.out; omega)).mono ?_
    rintro e w8 ⟨rfl, hb⟩
    rw [HE.out, ← Hcg.out]
    have z8 := hb.size
    (try simp at z8)
    have SA : w8.heap[w.heap.size]? = some (.cells #[.string d0.key, .string d0.value, .int .i64 d0.effect] 35 (0, 0)) := (hb.block (w.heap.size) (by first | omega | (simp; try omega))).trans RA.out
    have SM : w8.heap[w3.heap.size]? = some (.cells #[.int .i64 T.kind, .bool T.flag, .int .i64 T.num, .string T.text, .slice D4 T.keys.length e4, .slice D5 T.kids.length e5] 40 (0, 0)) := (hb.block (w3.heap.size) (by first | omega | (simp; try omega))).trans RM.out
    have SG : w8.heap[w5.heap.size]? = some (.cells #[.int .i64 T.kind, .bool T.flag, .int .i64 T.num, .string T.text, .slice G4 T.keys.length i4, .slice G5 T.kids.length i5] 40 (0, 0)) := (hb.block (w5.heap.size) (by first | omega | (simp; try omega))).trans RG.out
    have Cw : Below w.heap.size w w8 := Bw.trans (hb.mono (by first | omega | (simp; try omega)))
    have CW : Below w3.heap.size w3 w8 := BW.trans (hb.mono (by first | omega | (simp; try omega)))
    have CD : Below w7.heap.size w7 w8 := BD.trans (hb.mono (by first | omega | (simp; try omega)))
    clear RA RM RG Bw BW BD xA0 xA1 xA2 xM0 xM1 xM2 xM3 xM4 xM5 xG0 xG1 xG2 xG3 xG4 xG5 xAf xMf xGf lA mA nA lM mM nM lG mG nG
    obtain ⟨xA0, xA1, xA2, xAf⟩ := row3 SA
    have lA := row_lt SA
    have mA := Nat.lt_succ_of_lt lA
    have nA := Nat.lt_succ_of_lt mA
    have RA := Lib.hid SA
    clear SA
    obtain ⟨xM0, xM1, xM2, xM3, xM4, xM5, xMf⟩ := row6 SM
    have lM := row_lt SM
    have mM := Nat.lt_succ_of_lt lM
    have nM := Nat.lt_succ_of_lt mM
    have RM := Lib.hid SM
    clear SM
    obtain ⟨xG0, xG1, xG2, xG3, xG4, xG5, xGf⟩ := row6 SG
    have lG := row_lt SG
    have mG := Nat.lt_succ_of_lt lG
    have nG := Nat.lt_succ_of_lt mG
    have RG := Lib.hid SG
    clear SG
    have Bw := Cw
    clear Cw
    have BW := CW
    clear CW
    have BD := CD
    clear CD
    clear hb
    go_wp2_with fail
    refine (c_laws_toTaint d0 _ _ HCC.out).mono ?_
    rintro e w9 ⟨rfl, hb⟩
    have z9 := hb.size
    (try simp at z9)
    have SA : w9.heap[w.heap.size]? = some (.cells #[.string d0.key, .string d0.value, .int .i64 d0.effect] 35 (0, 0)) := (hb.block (w.heap.size) (by first | omega | (simp; try omega))).trans RA.out
    have SM : w9.heap[w3.heap.size]? = some (.cells #[.int .i64 T.kind, .bool T.flag, .int .i64 T.num, .string T.text, .slice D4 T.keys.length e4, .slice D5 T.kids.length e5] 40 (0, 0)) := (hb.block (w3.heap.size) (by first | omega | (simp; try omega))).trans RM.out
    have SG : w9.heap[w5.heap.size]? = some (.cells #[.int .i64 T.kind, .bool T.flag, .int .i64 T.num, .string T.text, .slice G4 T.keys.length i4, .slice G5 T.kids.length i5] 40 (0, 0)) := (hb.block (w5.heap.size) (by first | omega | (simp; try omega))).trans RG.out
    have Cw : Below w.heap.size w w9 := Bw.trans (hb.mono (by first | omega | (simp; try omega)))
    have CW : Below w3.heap.size w3 w9 := BW.trans (hb.mono (by first | omega | (simp; try omega)))
    have CD : Below w7.heap.size w7 w9 := BD.trans (hb.mono (by first | omega | (simp; try omega)))
    clear RA RM RG Bw BW BD xA0 xA1 xA2 xM0 xM1 xM2 xM3 xM4 xM5 xG0 xG1 xG2 xG3 xG4 xG5 xAf xMf xGf lA mA nA lM mM nM lG mG nG
    obtain ⟨xA0, xA1, xA2, xAf⟩ := row3 SA
    have lA := row_lt SA
    have mA := Nat.lt_succ_of_lt lA
    have nA := Nat.lt_succ_of_lt mA
    have RA := Lib.hid SA
    clear SA
    obtain ⟨xM0, xM1, xM2, xM3, xM4, xM5, xMf⟩ := row6 SM
    have lM := row_lt SM
    have mM := Nat.lt_succ_of_lt lM
    have nM := Nat.lt_succ_of_lt mM
    have RM := Lib.hid SM
    clear SM
    obtain ⟨xG0, xG1, xG2, xG3, xG4, xG5, xGf⟩ := row6 SG
    have lG := row_lt SG
    have mG := Nat.lt_succ_of_lt lG
    have nG := Nat.lt_succ_of_lt mG
    have RG := Lib.hid SG
    clear SG
    have Bw := Cw
    clear Cw
    have BW := CW
    clear CW
    have BD := CD
    clear CD
    clear hb
    go_wp2_with fail
    refine (c_impl_TaintTree 0 d0.key d0.value d0.effect _ hk hv).mono ?_
    rintro e w10 ⟨cs10, rfl, T10, hb⟩
    rw [← HT.out] at T10
    obtain ⟨Q4, r4, Q5, r5, rfl, -⟩ := T10.flat
    have z10 := hb.size
    (try simp at z10)
    have SA : w10.heap[w.heap.size]? = some (.cells #[.string d0.key, .string d0.value, .int .i64 d0.effect] 35 (0, 0)) := (hb.block (w.heap.size) (by first | omega | (simp; try omega))).trans RA.out
    have SM : w10.heap[w3.heap.size]? = some (.cells #[.int .i64 T.kind, .bool T.flag, .int .i64 T.num, .string T.text, .slice D4 T.keys.length e4, .slice D5 T.kids.length e5] 40 (0, 0)) := (hb.block (w3.heap.size) (by first | omega | (simp; try omega))).trans RM.out
    have SG : w10.heap[w5.heap.size]? = some (.cells #[.int .i64 T.kind, .bool T.flag, .int .i64 T.num, .string T.text, .slice G4 T.keys.length i4, .slice G5 T.kids.length i5] 40 (0, 0)) := (hb.block (w5.heap.size) (by first | omega | (simp; try omega))).trans RG.out
    have Cw : Below w.heap.size w w10 := Bw.trans (hb.mono (by first | omega | (simp; try omega)))
    have CW : Below w3.heap.size w3 w10 := BW.trans (hb.mono (by first | omega | (simp; try omega)))
    have CD : Below w7.heap.size w7 w10 := BD.trans (hb.mono (by first | omega | (simp; try omega)))
    have CH := T10.toC (fun b hb => hb)
    clear T10
    clear RA RM RG Bw BW BD xA0 xA1 xA2 xM0 xM1 xM2 xM3 xM4 xM5 xG0 xG1 xG2 xG3 xG4 xG5 xAf xMf xGf lA mA nA lM mM nM lG mG nG
    obtain ⟨xA0, xA1, xA2, xAf⟩ := row3 SA
    have lA := row_lt SA
    have mA := Nat.lt_succ_of_lt lA
    have nA := Nat.lt_succ_of_lt mA
    have RA := Lib.hid SA
    clear SA
    obtain ⟨xM0, xM1, xM2, xM3, xM4, xM5, xMf⟩ := row6 SM
    have lM := row_lt SM
    have mM := Nat.lt_succ_of_lt lM
    have nM := Nat.lt_succ_of_lt mM
    have RM := Lib.hid SM
    clear SM
    obtain ⟨xG0, xG1, xG2, xG3, xG4, xG5, xGf⟩ := row6 SG
    have lG := row_lt SG
    have mG := Nat.lt_succ_of_lt lG
    have nG := Nat.lt_succ_of_lt mG
    have RG := Lib.hid SG
    clear SG
    have Bw := Cw
    clear Cw
    have BW := CW
    clear CW
    have BD := CD
    clear CD
    clear hb
    go_wp2_with fail
    refine (all_eqTree 2 T _ _ _ _ _ (CH.now ((Below.refl _ _).alloc (Nat.le_refl _) _)) (CW.now (BW.alloc (by first | omega | (simp; try omega)) _))).mono ?_
    rintro e w11 ⟨rfl, hb⟩
    have z11 := hb.size
    (try simp at z11)
    have SA : w11.heap[w.heap.size]? = some (.cells #[.string d0.key, .string d0.value, .int .i64 d0.effect] 35 (0, 0)) := (hb.block (w.heap.size) (by first | omega | (simp; try omega))).trans ((Below.heap_alloc _ _ _ (by first | omega | (simp; try omega))).trans RA.out)
    have SM : w11.heap[w3.heap.size]? = some (.cells #[.int .i64 T.kind, .bool T.flag, .int .i64 T.num, .string T.text, .slice D4 T.keys.length e4, .slice D5 T.kids.length e5] 40 (0, 0)) := (hb.block (w3.heap.size) (by first | omega | (simp; try omega))).trans ((Below.heap_alloc _ _ _ (by first | omega | (simp; try omega))).trans RM.out)
    have SG : w11.heap[w5.heap.size]? = some (.cells #[.int .i64 T.kind, .bool T.flag, .int .i64 T.num, .string T.text, .slice G4 T.keys.length i4, .slice G5 T.kids.length i5] 40 (0, 0)) := (hb.block (w5.heap.size) (by first | omega | (simp; try omega))).trans ((Below.heap_alloc _ _ _ (by first | omega | (simp; try omega))).trans RG.out)
    have SP : w11.heap[w10.heap.size]? = some (.cells #[.int .i64 T.kind, .bool T.flag, .int .i64 T.num, .string T.text, .slice Q4 T.keys.length r4, .slice Q5 T.kids.length r5] 40 (0, 0)) := (hb.block (w10.heap.size) (by first | omega | (simp; try omega))).trans (heap_at (by simp))
    have Cw : Below w.heap.size w w11 := (Bw.alloc (by first | omega | (simp; try omega)) _).trans (hb.mono (by first | omega | (simp; try omega)))
    have CW : Below w3.heap.size w3 w11 := (BW.alloc (by first | omega | (simp; try omega)) _).trans (hb.mono (by first | omega | (simp; try omega)))
    have CD : Below w7.heap.size w7 w11 := (BD.alloc (by first | omega | (simp; try omega)) _).trans (hb.mono (by first | omega | (simp; try omega)))
    clear RA RM RG Bw BW BD xA0 xA1 xA2 xM0 xM1 xM2 xM3 xM4 xM5 xG0 xG1 xG2 xG3 xG4 xG5 xAf xMf xGf lA mA nA lM mM nM lG mG nG
    obtain ⟨xA0, xA1, xA2, xAf⟩ := row3 SA
    have lA := row_lt SA
    have mA := Nat.lt_succ_of_lt lA
    have nA := Nat.lt_succ_of_lt mA
    have RA := Lib.hid SA
    clear SA
    obtain ⟨xM0, xM1, xM2, xM3, xM4, xM5, xMf⟩ := row6 SM
    have lM := row_lt SM
    have mM := Nat.lt_succ_of_lt lM
    have nM := Nat.lt_succ_of_lt mM
    have RM := Lib.hid SM
    clear SM
    obtain ⟨xG0, xG1, xG2, xG3, xG4, xG5, xGf⟩ := row6 SG
    have lG := row_lt SG
    have mG := Nat.lt_succ_of_lt lG
    have nG := Nat.lt_succ_of_lt mG
    have RG := Lib.hid SG
    clear SG
    obtain ⟨xP0, xP1, xP2, xP3, xP4, xP5, xPf⟩ := row6 SP
    have lP := row_lt SP
    have mP := Nat.lt_succ_of_lt lP
    have nP := Nat.lt_succ_of_lt mP
    have RP := Lib.hid SP
    clear SP
    have Bw := Cw
    clear Cw
    have BW := CW
    clear CW
    have BD := CD
    clear CD
    clear hb
    go_wp2_with fail
    refine (c_laws_heldTree 2 g0d _ _ _ _ (CG7.now BD) HM.out (by decide) (by have := HE.out; have := Hcg.out; omega)).mono ?_
    rintro e w12 ⟨rfl, hb⟩
    rw [HE.out, ← Hcg.out]
    have z12 := hb.size
    (try simp at z12)
    have SA : w12.heap[w.heap.size]? = some (.cells #[.string d0.key, .string d0.value, .int .i64 d0.effect] 35 (0, 0)) := (hb.block (w.heap.size) (by first | omega | (simp; try omega))).trans RA.out
    have SM : w12.heap[w3.heap.size]? = some (.cells #[.int .i64 T.kind, .bool T.flag, .int .i64 T.num, .string T.text, .slice D4 T.keys.length e4, .slice D5 T.kids.length e5] 40 (0, 0)) := (hb.block (w3.heap.size) (by first | omega | (simp; try omega))).trans RM.out
    have SG : w12.heap[w5.heap.size]? = some (.cells #[.int .i64 T.kind, .bool T.flag, .int .i64 T.num, .string T.text, .slice G4 T.keys.length i4, .slice G5 T.kids.length i5] 40 (0, 0)) := (hb.block (w5.heap.size) (by first | omega | (simp; try omega))).trans RG.out
    have SP : w12.heap[w10.heap.size]? = some (.cells #[.int .i64 T.kind, .bool T.flag, .int .i64 T.num, .string T.text, .slice Q4 T.keys.length r4, .slice Q5 T.kids.length r5] 40 (0, 0)) := (hb.block (w10.heap.size) (by first | omega | (simp; try omega))).trans RP.out
    have Cw : Below w.heap.size w w12 := Bw.trans (hb.mono (by first | omega | (simp; try omega)))
    have CW : Below w3.heap.size w3 w12 := BW.trans (hb.mono (by first | omega | (simp; try omega)))
    have CD : Below w7.heap.size w7 w12 := BD.trans (hb.mono (by first | omega | (simp; try omega)))
    clear RA RM RG RP Bw BW BD xA0 xA1 xA2 xM0 xM1 xM2 xM3 xM4 xM5 xG0 xG1 xG2 xG3 xG4 xG5 xP0 xP1 xP2 xP3 xP4 xP5 xAf xMf xGf xPf lA mA nA lM mM nM lG mG nG lP mP nP
    obtain ⟨xA0, xA1, xA2, xAf⟩ := row3 SA
    have lA := row_lt SA
    have mA := Nat.lt_succ_of_lt lA
    have nA := Nat.lt_succ_of_lt mA
    have RA := Lib.hid SA
    clear SA
    obtain ⟨xM0, xM1, xM2, xM3, xM4, xM5, xMf⟩ := row6 SM
    have lM := row_lt SM
    have mM := Nat.lt_succ_of_lt lM
    have nM := Nat.lt_succ_of_lt mM
    have RM := Lib.hid SM
    clear SM
    obtain ⟨xG0, xG1, xG2, xG3, xG4, xG5, xGf⟩ := row6 SG
    have lG := row_lt SG
    have mG := Nat.lt_succ_of_lt lG
    have nG := Nat.lt_succ_of_lt mG
    have RG := Lib.hid SG
    clear SG
    obtain ⟨xP0, xP1, xP2, xP3, xP4, xP5, xPf⟩ := row6 SP
    have lP := row_lt SP
    have mP := Nat.lt_succ_of_lt lP
    have nP := Nat.lt_succ_of_lt mP
    have RP := Lib.hid SP
    clear SP
    have Bw := Cw
    clear Cw
    have BW := CW
    clear CW
    have BD := CD
    clear CD
    clear hb
    go_wp2_with fail
    go_ret
    exact ⟨rfl, Bw⟩
  · have hz := szI_neg hq
    have hz2 : szI 1048576 (nTaint d0) < 0 := by omega
    clear hz
    go_enter Try.func4, Try.ntmps4
    go_wp2_with (go_at_call 23; refine (c_laws_szTaint d0 _ _ _ hC (by omega) (by omega)).mono ?_; rintro e w1 ⟨rfl, hb⟩)
    go_ret
    exact ⟨rfl, (by repeat (first | (with_reducible exact Below.refl _ _) | (with_reducible refine ext_alloc ?_) | ((with_reducible refine ext_setCell ?_ ?_); focus (simp; (try omega))) | (with_reducible refine below_drewN ?_ _) | (with_reducible refine Below.drew ?_) | (with_reducible (apply ext_step; assumption))))⟩
set_option maxHeartbeats 4000000 in
set_option maxRecDepth 10000 in
theorem w_FnExactToleranceTree (d0 : Tolerance) (v0 : Value) (w : World) (h0 : R_Tolerance w d0 v0) :
    Calls Try.prog 7 #[v0] w fun e w' => e = .returned (.bool true) ∧ Below w.heap.size w w' := by
  obtain ⟨cs, rfl, hC⟩ := h0
  have hC2 := hC
  obtain ⟨rfl, hk, hv, he⟩ := hC2
  by_cases hq : ((nTolerance d0 : Nat) : Int) ≤ 1048576
  · have hz := szI_pos hq
    have hz2 : ¬ szI 1048576 (nTolerance d0) < 0 := by omega
    obtain ⟨T, hT⟩ : ∃ T, T = tolT d0.key d0.equal d0.value d0.effect := ⟨_, rfl⟩
    have Hc : cntT 2 T ≤ 4194304 := by rw [hT]; exact cnt_tol _ _ _ _
    have HT := Lib.hid hT
    have HC := Lib.hid Hc
    have HCC := Lib.hid hC
    clear hz hT Hc hC
    go_enter Try.func7, Try.ntmps7
    have Bw : Below w.heap.size w w := Below.refl _ _
    go_wp2_with fail
    refine (c_laws_szTolerance d0 _ _ _ HCC.out (by omega) (by omega)).mono ?_
    rintro e w1 ⟨rfl, hb⟩
    have z1 := hb.size
    (try simp at z1)
    have SA : w1.heap[w.heap.size]? = some (.cells #[.string d0.key, .bool d0.equal, .string d0.value, .int .i64 d0.effect] 68 (0, 0)) := (hb.block (w.heap.size) (by first | omega | (simp; try omega))).trans (heap_at (by simp))
    have Cw : Below w.heap.size w w1 := (Bw.alloc (by first | omega | (simp; try omega)) _).trans (hb.mono (by first | omega | (simp; try omega)))
    obtain ⟨xA0, xA1, xA2, xA3, xAf⟩ := row4 SA
    have lA := row_lt SA
    have mA := Nat.lt_succ_of_lt lA
    have nA := Nat.lt_succ_of_lt mA
    have RA := Lib.hid SA
    clear SA
    have Bw := Cw
    clear Cw
    clear hb
    go_wp2_with fail
    refine (c_laws_toTolerance d0 _ _ HCC.out).mono ?_
    rintro e w2 ⟨rfl, hb⟩
    have z2 := hb.size
    (try simp at z2)
    have SA : w2.heap[w.heap.size]? = some (.cells #[.string d0.key, .bool d0.equal, .string d0.value, .int .i64 d0.effect] 68 (0, 0)) := (hb.block (w.heap.size) (by first | omega | (simp; try omega))).trans RA.out
    have Cw : Below w.heap.size w w2 := Bw.trans (hb.mono (by first | omega | (simp; try omega)))
    clear RA Bw xA0 xA1 xA2 xA3 xAf lA mA nA
    obtain ⟨xA0, xA1, xA2, xA3, xAf⟩ := row4 SA
    have lA := row_lt SA
    have mA := Nat.lt_succ_of_lt lA
    have nA := Nat.lt_succ_of_lt mA
    have RA := Lib.hid SA
    clear SA
    have Bw := Cw
    clear Cw
    clear hb
    go_wp2_with fail
    refine (c_spec_ToleranceTree 0 d0.key d0.equal d0.value d0.effect _ hk hv).mono ?_
    rintro e w3 ⟨cs3, rfl, T3, hb⟩
    rw [← HT.out] at T3
    obtain ⟨D4, e4, D5, e5, rfl, -⟩ := T3.flat
    have z3 := hb.size
    (try simp at z3)
    have SA : w3.heap[w.heap.size]? = some (.cells #[.string d0.key, .bool d0.equal, .string d0.value, .int .i64 d0.effect] 68 (0, 0)) := (hb.block (w.heap.size) (by first | omega | (simp; try omega))).trans RA.out
    have Cw : Below w.heap.size w w3 := Bw.trans (hb.mono (by first | omega | (simp; try omega)))
    have CW := T3.toC (fun b hb => hb)
    clear T3
    clear RA Bw xA0 xA1 xA2 xA3 xAf lA mA nA
    obtain ⟨xA0, xA1, xA2, xA3, xAf⟩ := row4 SA
    have lA := row_lt SA
    have mA := Nat.lt_succ_of_lt lA
    have nA := Nat.lt_succ_of_lt mA
    have RA := Lib.hid SA
    clear SA
    have Bw := Cw
    clear Cw
    clear hb
    have BW : Below w3.heap.size w3 w3 := Below.refl _ _
    go_wp2_with fail
    refine (c_laws_toTolerance d0 _ _ HCC.out).mono ?_
    rintro e w4 ⟨rfl, hb⟩
    have z4 := hb.size
    (try simp at z4)
    have SA : w4.heap[w.heap.size]? = some (.cells #[.string d0.key, .bool d0.equal, .string d0.value, .int .i64 d0.effect] 68 (0, 0)) := (hb.block (w.heap.size) (by first | omega | (simp; try omega))).trans ((Below.heap_alloc _ _ _ (by first | omega | (simp; try omega))).trans RA.out)
    have SM : w4.heap[w3.heap.size]? = some (.cells #[.int .i64 T.kind, .bool T.flag, .int .i64 T.num, .string T.text, .slice D4 T.keys.length e4, .slice D5 T.kids.length e5] 40 (0, 0)) := (hb.block (w3.heap.size) (by first | omega | (simp; try omega))).trans (heap_at (by simp))
    have Cw : Below w.heap.size w w4 := (Bw.alloc (by first | omega | (simp; try omega)) _).trans (hb.mono (by first | omega | (simp; try omega)))
    have CW : Below w3.heap.size w3 w4 := (BW.alloc (by first | omega | (simp; try omega)) _).trans (hb.mono (by first | omega | (simp; try omega)))
    clear RA Bw BW xA0 xA1 xA2 xA3 xAf lA mA nA
    obtain ⟨xA0, xA1, xA2, xA3, xAf⟩ := row4 SA
    have lA := row_lt SA
    have mA := Nat.lt_succ_of_lt lA
    have nA := Nat.lt_succ_of_lt mA
    have RA := Lib.hid SA
    clear SA
    obtain ⟨xM0, xM1, xM2, xM3, xM4, xM5, xMf⟩ := row6 SM
    have lM := row_lt SM
    have mM := Nat.lt_succ_of_lt lM
    have nM := Nat.lt_succ_of_lt mM
    have RM := Lib.hid SM
    clear SM
    have Bw := Cw
    clear Cw
    have BW := CW
    clear CW
    clear hb
    go_wp2_with fail
    refine (c_impl_ToleranceTree 0 d0.key d0.equal d0.value d0.effect _ hk hv).mono ?_
    rintro e w5 ⟨cs5, rfl, TG, hb⟩
    rw [← HT.out] at TG
    obtain ⟨G4, i4, G5, i5, rfl, -⟩ := TG.flat
    have z5 := hb.size
    (try simp at z5)
    have SA : w5.heap[w.heap.size]? = some (.cells #[.string d0.key, .bool d0.equal, .string d0.value, .int .i64 d0.effect] 68 (0, 0)) := (hb.block (w.heap.size) (by first | omega | (simp; try omega))).trans RA.out
    have SM : w5.heap[w3.heap.size]? = some (.cells #[.int .i64 T.kind, .bool T.flag, .int .i64 T.num, .string T.text, .slice D4 T.keys.length e4, .slice D5 T.kids.length e5] 40 (0, 0)) := (hb.block (w3.heap.size) (by first | omega | (simp; try omega))).trans RM.out
    have Cw : Below w.heap.size w w5 := Bw.trans (hb.mono (by first | omega | (simp; try omega)))
    have CW : Below w3.heap.size w3 w5 := BW.trans (hb.mono (by first | omega | (simp; try omega)))
    have CG := TG.toC (fun b hb => hb)
    clear RA RM Bw BW xA0 xA1 xA2 xA3 xM0 xM1 xM2 xM3 xM4 xM5 xAf xMf lA mA nA lM mM nM
    obtain ⟨xA0, xA1, xA2, xA3, xAf⟩ := row4 SA
    have lA := row_lt SA
    have mA := Nat.lt_succ_of_lt lA
    have nA := Nat.lt_succ_of_lt mA
    have RA := Lib.hid SA
    clear SA
    obtain ⟨xM0, xM1, xM2, xM3, xM4, xM5, xMf⟩ := row6 SM
    have lM := row_lt SM
    have mM := Nat.lt_succ_of_lt lM
    have nM := Nat.lt_succ_of_lt mM
    have RM := Lib.hid SM
    clear SM
    have Bw := Cw
    clear Cw
    have BW := CW
    clear CW
    clear hb
    have BG : Below w5.heap.size w5 w5 := Below.refl _ _
    go_wp2_with fail
    refine (all_eqTree 2 T _ _ _ _ _ (CG.now (BG.alloc (by first | omega | (simp; try omega)) _)) (CW.now (BW.alloc (by first | omega | (simp; try omega)) _))).mono ?_
    rintro e w6 ⟨rfl, hb⟩
    have z6 := hb.size
    (try simp at z6)
    have SA : w6.heap[w.heap.size]? = some (.cells #[.string d0.key, .bool d0.equal, .string d0.value, .int .i64 d0.effect] 68 (0, 0)) := (hb.block (w.heap.size) (by first | omega | (simp; try omega))).trans ((Below.heap_alloc _ _ _ (by first | omega | (simp; try omega))).trans RA.out)
    have SM : w6.heap[w3.heap.size]? = some (.cells #[.int .i64 T.kind, .bool T.flag, .int .i64 T.num, .string T.text, .slice D4 T.keys.length e4, .slice D5 T.kids.length e5] 40 (0, 0)) := (hb.block (w3.heap.size) (by first | omega | (simp; try omega))).trans ((Below.heap_alloc _ _ _ (by first | omega | (simp; try omega))).trans RM.out)
    have SG : w6.heap[w5.heap.size]? = some (.cells #[.int .i64 T.kind, .bool T.flag, .int .i64 T.num, .string T.text, .slice G4 T.keys.length i4, .slice G5 T.kids.length i5] 40 (0, 0)) := (hb.block (w5.heap.size) (by first | omega | (simp; try omega))).trans (heap_at (by simp))
    have Cw : Below w.heap.size w w6 := (Bw.alloc (by first | omega | (simp; try omega)) _).trans (hb.mono (by first | omega | (simp; try omega)))
    have CW : Below w3.heap.size w3 w6 := (BW.alloc (by first | omega | (simp; try omega)) _).trans (hb.mono (by first | omega | (simp; try omega)))
    have CG : Below w5.heap.size w5 w6 := (BG.alloc (by first | omega | (simp; try omega)) _).trans (hb.mono (by first | omega | (simp; try omega)))
    clear RA RM Bw BW BG xA0 xA1 xA2 xA3 xM0 xM1 xM2 xM3 xM4 xM5 xAf xMf lA mA nA lM mM nM
    obtain ⟨xA0, xA1, xA2, xA3, xAf⟩ := row4 SA
    have lA := row_lt SA
    have mA := Nat.lt_succ_of_lt lA
    have nA := Nat.lt_succ_of_lt mA
    have RA := Lib.hid SA
    clear SA
    obtain ⟨xM0, xM1, xM2, xM3, xM4, xM5, xMf⟩ := row6 SM
    have lM := row_lt SM
    have mM := Nat.lt_succ_of_lt lM
    have nM := Nat.lt_succ_of_lt mM
    have RM := Lib.hid SM
    clear SM
    obtain ⟨xG0, xG1, xG2, xG3, xG4, xG5, xGf⟩ := row6 SG
    have lG := row_lt SG
    have mG := Nat.lt_succ_of_lt lG
    have nG := Nat.lt_succ_of_lt mG
    have RG := Lib.hid SG
    clear SG
    have Bw := Cw
    clear Cw
    have BW := CW
    clear CW
    have BG := CG
    clear CG
    clear hb
    go_wp2_with fail
    refine (all_mark 2 T _ _ _ _ (TG.carry (w' := w6) (fun b hq => BG.block b hq.2) (fun _ h => h)) (fun b hb => by omega) (by decide) (by have := HC.out; omega)).mono ?_
    rintro e w7 ⟨g0d, rfl, TG7, MG, EG, hb⟩
    have z7 := hb.size
    have SA : w7.heap[w.heap.size]? = some (.cells #[.string d0.key, .bool d0.equal, .string d0.value, .int .i64 d0.effect] 68 (0, 0)) := (hb.block (w.heap.size) (by omega) (by omega)).trans RA.out
    have SM : w7.heap[w3.heap.size]? = some (.cells #[.int .i64 T.kind, .bool T.flag, .int .i64 T.num, .string T.text, .slice D4 T.keys.length e4, .slice D5 T.kids.length e5] 40 (0, 0)) := (hb.block (w3.heap.size) (by omega) (by omega)).trans RM.out
    have SG : w7.heap[w5.heap.size]? = some (.cells #[.int .i64 T.kind, .bool T.flag, .int .i64 T.num, .string T.text, .slice G4 T.keys.length i4, .slice G5 T.kids.length i5] 40 (0, 0)) := (hb.block (w5.heap.size) (by omega) (by omega)).trans RG.out
    have Cw : Below w.heap.size w w7 := Bw.trans (hb.below (by omega) (fun i hi => by omega))
    have CW : Below w3.heap.size w3 w7 := BW.trans (hb.below (by omega) (fun i hi => by omega))
    have CG7 := TG7.toC (lo := w4.heap.size) (hi := w7.heap.size) (fun b hq => ⟨hq.1, by omega⟩)
    have HE := Lib.hid EG
    have HM := Lib.hid MG
    clear TG CG TG7 EG MG
    clear RA RM RG Bw BW xA0 xA1 xA2 xA3 xM0 xM1 xM2 xM3 xM4 xM5 xG0 xG1 xG2 xG3 xG4 xG5 xAf xMf xGf lA mA nA lM mM nM lG mG nG
    obtain ⟨xA0, xA1, xA2, xA3, xAf⟩ := row4 SA
    have lA := row_lt SA
    have mA := Nat.lt_succ_of_lt lA
    have nA := Nat.lt_succ_of_lt mA
    have RA := Lib.hid SA
    clear SA
    obtain ⟨xM0, xM1, xM2, xM3, xM4, xM5, xMf⟩ := row6 SM
    have lM := row_lt SM
    have mM := Nat.lt_succ_of_lt lM
    have nM := Nat.lt_succ_of_lt mM
    have RM := Lib.hid SM
    clear SM
    obtain ⟨xG0, xG1, xG2, xG3, xG4, xG5, xGf⟩ := row6 SG
    have lG := row_lt SG
    have mG := Nat.lt_succ_of_lt lG
    have nG := Nat.lt_succ_of_lt mG
    have RG := Lib.hid SG
    clear SG
    have Bw := Cw
    clear Cw
    have BW := CW
    clear CW
    clear hb
    have BD : Below w7.heap.size w7 w7 := Below.refl _ _
    obtain ⟨cg, hcg⟩ : ∃ cg : Int, cg = (cntT 2 T : Int) := ⟨_, rfl⟩
    have Hcg := Lib.hid hcg
    have hcg0 : 0 ≤ cg := by omega
    have hcg1 : cg ≤ 4194304 := by have := HC.out; omega
    rw [← hcg]
    clear hcg
    go_wp2_with fail
    refine (c_laws_heldTree 2 g0d _ _ _ _ CG7 HM.out (by decide) (by have := HE.out; have := Hcg.out; omega)).mono ?_
    rintro e w8 ⟨rfl, hb⟩
    rw [HE.out, ← Hcg.out]
    have z8 := hb.size
    (try simp at z8)
    have SA : w8.heap[w.heap.size]? = some (.cells #[.string d0.key, .bool d0.equal, .string d0.value, .int .i64 d0.effect] 68 (0, 0)) := (hb.block (w.heap.size) (by first | omega | (simp; try omega))).trans RA.out
    have SM : w8.heap[w3.heap.size]? = some (.cells #[.int .i64 T.kind, .bool T.flag, .int .i64 T.num, .string T.text, .slice D4 T.keys.length e4, .slice D5 T.kids.length e5] 40 (0, 0)) := (hb.block (w3.heap.size) (by first | omega | (simp; try omega))).trans RM.out
    have SG : w8.heap[w5.heap.size]? = some (.cells #[.int .i64 T.kind, .bool T.flag, .int .i64 T.num, .string T.text, .slice G4 T.keys.length i4, .slice G5 T.kids.length i5] 40 (0, 0)) := (hb.block (w5.heap.size) (by first | omega | (simp; try omega))).trans RG.out
    have Cw : Below w.heap.size w w8 := Bw.trans (hb.mono (by first | omega | (simp; try omega)))
    have CW : Below w3.heap.size w3 w8 := BW.trans (hb.mono (by first | omega | (simp; try omega)))
    have CD : Below w7.heap.size w7 w8 := BD.trans (hb.mono (by first | omega | (simp; try omega)))
    clear RA RM RG Bw BW BD xA0 xA1 xA2 xA3 xM0 xM1 xM2 xM3 xM4 xM5 xG0 xG1 xG2 xG3 xG4 xG5 xAf xMf xGf lA mA nA lM mM nM lG mG nG
    obtain ⟨xA0, xA1, xA2, xA3, xAf⟩ := row4 SA
    have lA := row_lt SA
    have mA := Nat.lt_succ_of_lt lA
    have nA := Nat.lt_succ_of_lt mA
    have RA := Lib.hid SA
    clear SA
    obtain ⟨xM0, xM1, xM2, xM3, xM4, xM5, xMf⟩ := row6 SM
    have lM := row_lt SM
    have mM := Nat.lt_succ_of_lt lM
    have nM := Nat.lt_succ_of_lt mM
    have RM := Lib.hid SM
    clear SM
    obtain ⟨xG0, xG1, xG2, xG3, xG4, xG5, xGf⟩ := row6 SG
    have lG := row_lt SG
    have mG := Nat.lt_succ_of_lt lG
    have nG := Nat.lt_succ_of_lt mG
    have RG := Lib.hid SG
    clear SG
    have Bw := Cw
    clear Cw
    have BW := CW
    clear CW
    have BD := CD
    clear CD
    clear hb
    go_wp2_with fail
    refine (c_laws_toTolerance d0 _ _ HCC.out).mono ?_
    rintro e w9 ⟨rfl, hb⟩
    have z9 := hb.size
    (try simp at z9)
    have SA : w9.heap[w.heap.size]? = some (.cells #[.string d0.key, .bool d0.equal, .string d0.value, .int .i64 d0.effect] 68 (0, 0)) := (hb.block (w.heap.size) (by first | omega | (simp; try omega))).trans RA.out
    have SM : w9.heap[w3.heap.size]? = some (.cells #[.int .i64 T.kind, .bool T.flag, .int .i64 T.num, .string T.text, .slice D4 T.keys.length e4, .slice D5 T.kids.length e5] 40 (0, 0)) := (hb.block (w3.heap.size) (by first | omega | (simp; try omega))).trans RM.out
    have SG : w9.heap[w5.heap.size]? = some (.cells #[.int .i64 T.kind, .bool T.flag, .int .i64 T.num, .string T.text, .slice G4 T.keys.length i4, .slice G5 T.kids.length i5] 40 (0, 0)) := (hb.block (w5.heap.size) (by first | omega | (simp; try omega))).trans RG.out
    have Cw : Below w.heap.size w w9 := Bw.trans (hb.mono (by first | omega | (simp; try omega)))
    have CW : Below w3.heap.size w3 w9 := BW.trans (hb.mono (by first | omega | (simp; try omega)))
    have CD : Below w7.heap.size w7 w9 := BD.trans (hb.mono (by first | omega | (simp; try omega)))
    clear RA RM RG Bw BW BD xA0 xA1 xA2 xA3 xM0 xM1 xM2 xM3 xM4 xM5 xG0 xG1 xG2 xG3 xG4 xG5 xAf xMf xGf lA mA nA lM mM nM lG mG nG
    obtain ⟨xA0, xA1, xA2, xA3, xAf⟩ := row4 SA
    have lA := row_lt SA
    have mA := Nat.lt_succ_of_lt lA
    have nA := Nat.lt_succ_of_lt mA
    have RA := Lib.hid SA
    clear SA
    obtain ⟨xM0, xM1, xM2, xM3, xM4, xM5, xMf⟩ := row6 SM
    have lM := row_lt SM
    have mM := Nat.lt_succ_of_lt lM
    have nM := Nat.lt_succ_of_lt mM
    have RM := Lib.hid SM
    clear SM
    obtain ⟨xG0, xG1, xG2, xG3, xG4, xG5, xGf⟩ := row6 SG
    have lG := row_lt SG
    have mG := Nat.lt_succ_of_lt lG
    have nG := Nat.lt_succ_of_lt mG
    have RG := Lib.hid SG
    clear SG
    have Bw := Cw
    clear Cw
    have BW := CW
    clear CW
    have BD := CD
    clear CD
    clear hb
    go_wp2_with fail
    refine (c_impl_ToleranceTree 0 d0.key d0.equal d0.value d0.effect _ hk hv).mono ?_
    rintro e w10 ⟨cs10, rfl, T10, hb⟩
    rw [← HT.out] at T10
    obtain ⟨Q4, r4, Q5, r5, rfl, -⟩ := T10.flat
    have z10 := hb.size
    (try simp at z10)
    have SA : w10.heap[w.heap.size]? = some (.cells #[.string d0.key, .bool d0.equal, .string d0.value, .int .i64 d0.effect] 68 (0, 0)) := (hb.block (w.heap.size) (by first | omega | (simp; try omega))).trans RA.out
    have SM : w10.heap[w3.heap.size]? = some (.cells #[.int .i64 T.kind, .bool T.flag, .int .i64 T.num, .string T.text, .slice D4 T.keys.length e4, .slice D5 T.kids.length e5] 40 (0, 0)) := (hb.block (w3.heap.size) (by first | omega | (simp; try omega))).trans RM.out
    have SG : w10.heap[w5.heap.size]? = some (.cells #[.int .i64 T.kind, .bool T.flag, .int .i64 T.num, .string T.text, .slice G4 T.keys.length i4, .slice G5 T.kids.length i5] 40 (0, 0)) := (hb.block (w5.heap.size) (by first | omega | (simp; try omega))).trans RG.out
    have Cw : Below w.heap.size w w10 := Bw.trans (hb.mono (by first | omega | (simp; try omega)))
    have CW : Below w3.heap.size w3 w10 := BW.trans (hb.mono (by first | omega | (simp; try omega)))
    have CD : Below w7.heap.size w7 w10 := BD.trans (hb.mono (by first | omega | (simp; try omega)))
    have CH := T10.toC (fun b hb => hb)
    clear T10
    clear RA RM RG Bw BW BD xA0 xA1 xA2 xA3 xM0 xM1 xM2 xM3 xM4 xM5 xG0 xG1 xG2 xG3 xG4 xG5 xAf xMf xGf lA mA nA lM mM nM lG mG nG
    obtain ⟨xA0, xA1, xA2, xA3, xAf⟩ := row4 SA
    have lA := row_lt SA
    have mA := Nat.lt_succ_of_lt lA
    have nA := Nat.lt_succ_of_lt mA
    have RA := Lib.hid SA
    clear SA
    obtain ⟨xM0, xM1, xM2, xM3, xM4, xM5, xMf⟩ := row6 SM
    have lM := row_lt SM
    have mM := Nat.lt_succ_of_lt lM
    have nM := Nat.lt_succ_of_lt mM
    have RM := Lib.hid SM
    clear SM
    obtain ⟨xG0, xG1, xG2, xG3, xG4, xG5, xGf⟩ := row6 SG
    have lG := row_lt SG
    have mG := Nat.lt_succ_of_lt lG
    have nG := Nat.lt_succ_of_lt mG
    have RG := Lib.hid SG
    clear SG
    have Bw := Cw
    clear Cw
    have BW := CW
    clear CW
    have BD := CD
    clear CD
    clear hb
    go_wp2_with fail
    refine (all_eqTree 2 T _ _ _ _ _ (CH.now ((Below.refl _ _).alloc (Nat.le_refl _) _)) (CW.now (BW.alloc (by first | omega | (simp; try omega)) _))).mono ?_
    rintro e w11 ⟨rfl, hb⟩
    have z11 := hb.size
    (try simp at z11)
    have SA : w11.heap[w.heap.size]? = some (.cells #[.string d0.key, .bool d0.equal, .string d0.value, .int .i64 d0.effect] 68 (0, 0)) := (hb.block (w.heap.size) (by first | omega | (simp; try omega))).trans ((Below.heap_alloc _ _ _ (by first | omega | (simp; try omega))).trans RA.out)
    have SM : w11.heap[w3.heap.size]? = some (.cells #[.int .i64 T.kind, .bool T.flag, .int .i64 T.num, .string T.text, .slice D4 T.keys.length e4, .slice D5 T.kids.length e5] 40 (0, 0)) := (hb.block (w3.heap.size) (by first | omega | (simp; try omega))).trans ((Below.heap_alloc _ _ _ (by first | omega | (simp; try omega))).trans RM.out)
    have SG : w11.heap[w5.heap.size]? = some (.cells #[.int .i64 T.kind, .bool T.flag, .int .i64 T.num, .string T.text, .slice G4 T.keys.length i4, .slice G5 T.kids.length i5] 40 (0, 0)) := (hb.block (w5.heap.size) (by first | omega | (simp; try omega))).trans ((Below.heap_alloc _ _ _ (by first | omega | (simp; try omega))).trans RG.out)
    have SP : w11.heap[w10.heap.size]? = some (.cells #[.int .i64 T.kind, .bool T.flag, .int .i64 T.num, .string T.text, .slice Q4 T.keys.length r4, .slice Q5 T.kids.length r5] 40 (0, 0)) := (hb.block (w10.heap.size) (by first | omega | (simp; try omega))).trans (heap_at (by simp))
    have Cw : Below w.heap.size w w11 := (Bw.alloc (by first | omega | (simp; try omega)) _).trans (hb.mono (by first | omega | (simp; try omega)))
    have CW : Below w3.heap.size w3 w11 := (BW.alloc (by first | omega | (simp; try omega)) _).trans (hb.mono (by first | omega | (simp; try omega)))
    have CD : Below w7.heap.size w7 w11 := (BD.alloc (by first | omega | (simp; try omega)) _).trans (hb.mono (by first | omega | (simp; try omega)))
    clear RA RM RG Bw BW BD xA0 xA1 xA2 xA3 xM0 xM1 xM2 xM3 xM4 xM5 xG0 xG1 xG2 xG3 xG4 xG5 xAf xMf xGf lA mA nA lM mM nM lG mG nG
    obtain ⟨xA0, xA1, xA2, xA3, xAf⟩ := row4 SA
    have lA := row_lt SA
    have mA := Nat.lt_succ_of_lt lA
    have nA := Nat.lt_succ_of_lt mA
    have RA := Lib.hid SA
    clear SA
    obtain ⟨xM0, xM1, xM2, xM3, xM4, xM5, xMf⟩ := row6 SM
    have lM := row_lt SM
    have mM := Nat.lt_succ_of_lt lM
    have nM := Nat.lt_succ_of_lt mM
    have RM := Lib.hid SM
    clear SM
    obtain ⟨xG0, xG1, xG2, xG3, xG4, xG5, xGf⟩ := row6 SG
    have lG := row_lt SG
    have mG := Nat.lt_succ_of_lt lG
    have nG := Nat.lt_succ_of_lt mG
    have RG := Lib.hid SG
    clear SG
    obtain ⟨xP0, xP1, xP2, xP3, xP4, xP5, xPf⟩ := row6 SP
    have lP := row_lt SP
    have mP := Nat.lt_succ_of_lt lP
    have nP := Nat.lt_succ_of_lt mP
    have RP := Lib.hid SP
    clear SP
    have Bw := Cw
    clear Cw
    have BW := CW
    clear CW
    have BD := CD
    clear CD
    clear hb
    go_wp2_with fail
    refine (c_laws_heldTree 2 g0d _ _ _ _ (CG7.now BD) HM.out (by decide) (by have := HE.out; have := Hcg.out; omega)).mono ?_
    rintro e w12 ⟨rfl, hb⟩
    rw [HE.out, ← Hcg.out]
    have z12 := hb.size
    (try simp at z12)
    have SA : w12.heap[w.heap.size]? = some (.cells #[.string d0.key, .bool d0.equal, .string d0.value, .int .i64 d0.effect] 68 (0, 0)) := (hb.block (w.heap.size) (by first | omega | (simp; try omega))).trans RA.out
    have SM : w12.heap[w3.heap.size]? = some (.cells #[.int .i64 T.kind, .bool T.flag, .int .i64 T.num, .string T.text, .slice D4 T.keys.length e4, .slice D5 T.kids.length e5] 40 (0, 0)) := (hb.block (w3.heap.size) (by first | omega | (simp; try omega))).trans RM.out
    have SG : w12.heap[w5.heap.size]? = some (.cells #[.int .i64 T.kind, .bool T.flag, .int .i64 T.num, .string T.text, .slice G4 T.keys.length i4, .slice G5 T.kids.length i5] 40 (0, 0)) := (hb.block (w5.heap.size) (by first | omega | (simp; try omega))).trans RG.out
    have SP : w12.heap[w10.heap.size]? = some (.cells #[.int .i64 T.kind, .bool T.flag, .int .i64 T.num, .string T.text, .slice Q4 T.keys.length r4, .slice Q5 T.kids.length r5] 40 (0, 0)) := (hb.block (w10.heap.size) (by first | omega | (simp; try omega))).trans RP.out
    have Cw : Below w.heap.size w w12 := Bw.trans (hb.mono (by first | omega | (simp; try omega)))
    have CW : Below w3.heap.size w3 w12 := BW.trans (hb.mono (by first | omega | (simp; try omega)))
    have CD : Below w7.heap.size w7 w12 := BD.trans (hb.mono (by first | omega | (simp; try omega)))
    clear RA RM RG RP Bw BW BD xA0 xA1 xA2 xA3 xM0 xM1 xM2 xM3 xM4 xM5 xG0 xG1 xG2 xG3 xG4 xG5 xP0 xP1 xP2 xP3 xP4 xP5 xAf xMf xGf xPf lA mA nA lM mM nM lG mG nG lP mP nP
    obtain ⟨xA0, xA1, xA2, xA3, xAf⟩ := row4 SA
    have lA := row_lt SA
    have mA := Nat.lt_succ_of_lt lA
    have nA := Nat.lt_succ_of_lt mA
    have RA := Lib.hid SA
    clear SA
    obtain ⟨xM0, xM1, xM2, xM3, xM4, xM5, xMf⟩ := row6 SM
    have lM := row_lt SM
    have mM := Nat.lt_succ_of_lt lM
    have nM := Nat.lt_succ_of_lt mM
    have RM := Lib.hid SM
    clear SM
    obtain ⟨xG0, xG1, xG2, xG3, xG4, xG5, xGf⟩ := row6 SG
    have lG := row_lt SG
    have mG := Nat.lt_succ_of_lt lG
    have nG := Nat.lt_succ_of_lt mG
    have RG := Lib.hid SG
    clear SG
    obtain ⟨xP0, xP1, xP2, xP3, xP4, xP5, xPf⟩ := row6 SP
    have lP := row_lt SP
    have mP := Nat.lt_succ_of_lt lP
    have nP := Nat.lt_succ_of_lt mP
    have RP := Lib.hid SP
    clear SP
    have Bw := Cw
    clear Cw
    have BW := CW
    clear CW
    have BD := CD
    clear CD
    clear hb
    go_wp2_with fail
    go_ret
    exact ⟨rfl, Bw⟩
  · have hz := szI_neg hq
    have hz2 : szI 1048576 (nTolerance d0) < 0 := by omega
    clear hz
    go_enter Try.func7, Try.ntmps7
    go_wp2_with (go_at_call 43; refine (c_laws_szTolerance d0 _ _ _ hC (by omega) (by omega)).mono ?_; rintro e w1 ⟨rfl, hb⟩)
    go_ret
    exact ⟨rfl, (by repeat (first | (with_reducible exact Below.refl _ _) | (with_reducible refine ext_alloc ?_) | ((with_reducible refine ext_setCell ?_ ?_); focus (simp; (try omega))) | (with_reducible refine below_drewN ?_ _) | (with_reducible refine Below.drew ?_) | (with_reducible (apply ext_step; assumption))))⟩
end Go.Proofs.Ytipogknfbofbkaa
