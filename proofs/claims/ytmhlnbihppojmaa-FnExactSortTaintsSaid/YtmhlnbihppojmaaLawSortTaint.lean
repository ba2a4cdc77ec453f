/- The walk of the law FnExactSortTaints. No conditions. Written by wip/tools/genlawsort.py. -/
import Derived.Test.YtmhlnbihppojmaaSorted
import Derived.Test.YtmhlnbihppojmaaHeldTaint
namespace Go.Proofs.Ytmhlnbihppojmaa
open Go.RowKit

set_option maxHeartbeats 4000000 in
set_option maxRecDepth 10000 in
theorem w_FnExactSortTaints (d0 : List Taint) (v0 : Value) (w : World) (h0 : R_Taints w d0 v0) :
    Calls Try.prog 3 #[v0] w fun e w' => e = .returned (.bool true) ∧ Below w.heap.size w w' := by
  have h1 := h0
  obtain ⟨A0, c0, rfl, -⟩ := h1
  by_cases hq : ((nL nTaint d0 : Nat) : Int) ≤ 1048576
  · have hz := szI_pos hq
    have hz2 : ¬ szI 1048576 (nL nTaint d0) < 0 := by omega
    have hn : d0.length ≤ 1048576 := by have := nL_def nTaint d0; omega
    have HCd := Lib.hid (Taint_of_ord h0)
    obtain ⟨L, hL⟩ : ∃ L, L = (sortTB d0).1 := ⟨_, rfl⟩
    obtain ⟨B, hB⟩ : ∃ B, B = (sortTB d0).2 := ⟨_, rfl⟩
    have hLn : L.length ≤ d0.length ∧ ∀ d ∈ L, C_Taint d (encT d) := by rw [hL]; exact sortTB_all HCd.out
    have HL := Lib.hid hL
    have HB := Lib.hid hB
    have hL1 : L.length ≤ 1048576 := by omega
    have HC := Lib.hid hLn.2
    clear hz hL hB hLn
    go_enter Try.func3, Try.ntmps3
    have Bw : Below w.heap.size w w := Below.refl _ _
    go_wp2_with fail
    refine (c_laws_szTaintS d0 _ _ _ _ h0 (by omega) (by omega)).mono ?_
    rintro e w1 ⟨rfl, hb⟩
    have z1 := hb.size
    (try simp at z1)
    have Cw : Below w.heap.size w w1 := Bw.trans (hb.mono (by first | omega | (simp; try omega)))
    have Bw := Cw
    clear Cw
    clear hb
    go_wp2_with fail
    refine (c_laws_toTaintS d0 _ _ _ (h0.now Bw) hn).mono ?_
    rintro e w2 ⟨A2, c2, rfl, hr2, hb⟩
    have z2 := hb.size
    (try simp at z2)
    have Cw : Below w.heap.size w w2 := Bw.trans (hb.mono (by first | omega | (simp; try omega)))
    clear Bw
    have Bw := Cw
    clear Cw
    clear hb
    go_wp2_with fail
    refine (c_spec_SortTaints d0 _ _ _ hr2 hn).mono ?_
    rintro e w3 ⟨A3, c3, rfl, R3, hb⟩
    rw [← HL.out, ← HB.out]
    rw [← HL.out] at R3
    have z3 := hb.size
    (try simp at z3)
    have Cw : Below w.heap.size w w3 := Bw.trans (hb.mono (by first | omega | (simp; try omega)))
    have CW := Lib.hid (RowE.sl encT_len R3 HC.out)
    clear R3
    clear Bw
    have Bw := Cw
    clear Cw
    clear hb
    have BW : Below w3.heap.size w3 w3 := Below.refl _ _
    go_wp2_with fail
    refine (c_laws_toTaintSO d0 _ _ _ (h0.now Bw) hn).mono ?_
    rintro e w4 ⟨A4, c4, rfl, O4, hb⟩
    have z4 := hb.size
    (try simp at z4)
    have Cw : Below w.heap.size w w4 := Bw.trans (hb.mono (by first | omega | (simp; try omega)))
    have CW : Below w3.heap.size w3 w4 := BW.trans (hb.mono (by first | omega | (simp; try omega)))
    have OX := O4.carry (S' := fun b => w3.heap.size ≤ b ∧ b < w4.heap.size) (fun _ _ => rfl) (fun b hb => by simpa using hb)
    have CX := OX.toC (fun b hb => hb)
    clear O4
    clear Bw BW
    have Bw := Cw
    clear Cw
    have BW := CW
    clear CW
    clear hb
    have BX : Below w4.heap.size w4 w4 := Below.refl _ _
    go_wp2_with fail
    refine (c_impl_SortTaints d0 _ _ _ CX hn).mono ?_
    rintro e w5 ⟨A5, c5, rfl, R5, hb⟩
    rw [← HL.out, ← HB.out]
    rw [← HL.out] at R5
    have z5 := hb.size
    (try simp at z5)
    have Cw : Below w.heap.size w w5 := Bw.trans (hb.mono (by first | omega | (simp; try omega)))
    have CW : Below w3.heap.size w3 w5 := BW.trans (hb.mono (by first | omega | (simp; try omega)))
    have CX : Below w4.heap.size w4 w5 := BX.trans (hb.mono (by first | omega | (simp; try omega)))
    have RG := (RowE.own encT_len R5 HC.out).carry (S' := fun b => w4.heap.size ≤ b ∧ b < w5.heap.size) (fun _ _ => rfl) (fun b hb => World.ownsRow.lt R5 b hb)
    have CG := RG.toC (fun b hb => hb)
    clear R5
    clear Bw BW BX
    have Bw := Cw
    clear Cw
    have BW := CW
    clear CW
    have BX := CX
    clear CX
    clear hb
    have BG : Below w5.heap.size w5 w5 := Below.refl _ _
    go_wp2_with fail
    refine (c_laws_eqTaintS L _ _ _ _ _ CG (Sl_Taint.now CW.out BW)).mono ?_
    rintro e w6 ⟨rfl, hb⟩
    have z6 := hb.size
    (try simp at z6)
    have Cw : Below w.heap.size w w6 := Bw.trans (hb.mono (by first | omega | (simp; try omega)))
    have CW : Below w3.heap.size w3 w6 := BW.trans (hb.mono (by first | omega | (simp; try omega)))
    have CX : Below w4.heap.size w4 w6 := BX.trans (hb.mono (by first | omega | (simp; try omega)))
    have CG : Below w5.heap.size w5 w6 := BG.trans (hb.mono (by first | omega | (simp; try omega)))
    clear Bw BW BX BG
    have Bw := Cw
    clear Cw
    have BW := CW
    clear CW
    have BX := CX
    clear CX
    have BG := CG
    clear CG
    clear hb
    go_wp2_with fail
    refine (c_laws_toTaintS d0 _ _ _ (h0.now Bw) hn).mono ?_
    rintro e w7 ⟨A7, c7, rfl, hr7, hb⟩
    have z7 := hb.size
    (try simp at z7)
    have Cw : Below w.heap.size w w7 := Bw.trans (hb.mono (by first | omega | (simp; try omega)))
    have CW : Below w3.heap.size w3 w7 := BW.trans (hb.mono (by first | omega | (simp; try omega)))
    have CX : Below w4.heap.size w4 w7 := BX.trans (hb.mono (by first | omega | (simp; try omega)))
    have CG : Below w5.heap.size w5 w7 := BG.trans (hb.mono (by first | omega | (simp; try omega)))
    clear Bw BW BX BG
    have Bw := Cw
    clear Cw
    have BW := CW
    clear CW
    have BX := CX
    clear CX
    have BG := CG
    clear CG
    clear hb
    go_wp2_with fail
    refine (c_laws_eqTaintS d0 _ _ _ _ _ (Sl_Taint.now CX BX) hr7).mono ?_
    rintro e w8 ⟨rfl, hb⟩
    have z8 := hb.size
    (try simp at z8)
    have Cw : Below w.heap.size w w8 := Bw.trans (hb.mono (by first | omega | (simp; try omega)))
    have CW : Below w3.heap.size w3 w8 := BW.trans (hb.mono (by first | omega | (simp; try omega)))
    have CX : Below w4.heap.size w4 w8 := BX.trans (hb.mono (by first | omega | (simp; try omega)))
    have CG : Below w5.heap.size w5 w8 := BG.trans (hb.mono (by first | omega | (simp; try omega)))
    clear Bw BW BX BG
    have Bw := Cw
    clear Cw
    have BW := CW
    clear CW
    have BX := CX
    clear CX
    have BG := CG
    clear CG
    clear hb
    go_wp2_with fail
    refine (c_laws_markTaintS d0 _ _ _ _ (OX.carry (w' := w8) (fun b hb => BX.block b hb.2) (fun _ h => h)) (fun b hb => by omega) (by decide) (by omega)).mono ?_
    rintro e w9 ⟨l9, rfl, -, -, -, hb⟩
    have z9 := hb.size
    have Cw : Below w.heap.size w w9 := Bw.trans (hb.below (by omega) (fun i hi => by omega))
    have CW : Below w3.heap.size w3 w9 := BW.trans (hb.below (by omega) (fun i hi => by omega))
    have RG9 := RG.carry (w' := w9) (fun b hq => (hb.block b (by omega) (by omega)).trans (BG.block b hq.2)) (fun _ h => h)
    have CG9 := RG9.toC (lo := w4.heap.size) (hi := w9.heap.size) (fun b hq => ⟨hq.1, by omega⟩)
    have hk9 : ¬ (1 + 3 * (d0.length : Int)) < 0 := by omega
    clear RG CG CX OX
    clear Bw BW
    have Bw := Cw
    clear Cw
    have BW := CW
    clear CW
    clear hb
    go_wp2_with fail
    refine (c_laws_eqTaintS L _ _ _ _ _ CG9 (Sl_Taint.now CW.out BW)).mono ?_
    rintro e w10 ⟨rfl, hb⟩
    have z10 := hb.size
    (try simp at z10)
    have Cw : Below w.heap.size w w10 := Bw.trans (hb.mono (by first | omega | (simp; try omega)))
    have CW : Below w3.heap.size w3 w10 := BW.trans (hb.mono (by first | omega | (simp; try omega)))
    have RG10 := RG9.carry (w' := w10) (fun b hq => hb.block b (by omega)) (fun _ h => h)
    clear RG9 CG9
    clear Bw BW
    have Bw := Cw
    clear Cw
    have BW := CW
    clear CW
    clear hb
    go_wp2_with fail
    refine (c_laws_markTaintS L _ _ _ _ RG10 (fun b hb => by omega) (by decide) (by omega)).mono ?_
    rintro e w11 ⟨l11, rfl, EL, RG11, MG, hb⟩
    have z11 := hb.size
    have Cw : Below w.heap.size w w11 := Bw.trans (hb.below (by omega) (fun i hi => by omega))
    have CW : Below w3.heap.size w3 w11 := BW.trans (hb.below (by omega) (fun i hi => by omega))
    have CG11 := RG11.toC (lo := w4.heap.size) (hi := w11.heap.size) (fun b hq => ⟨hq.1, by omega⟩)
    have HE := Lib.hid EL
    have HM := Lib.hid MG
    clear RG10 RG11 EL MG
    clear Bw BW
    have Bw := Cw
    clear Cw
    have BW := CW
    clear CW
    clear hb
    have BD : Below w11.heap.size w11 w11 := Below.refl _ _
    go_wp2_with fail
    refine (c_laws_heldTaintS l11 _ _ _ _ CG11 HM.out (by decide) (by rw [HE.out]; omega)).mono ?_
    rintro e w12 ⟨rfl, hb⟩
    rw [HE.out]
    have z12 := hb.size
    (try simp at z12)
    have Cw : Below w.heap.size w w12 := Bw.trans (hb.mono (by first | omega | (simp; try omega)))
    have CW : Below w3.heap.size w3 w12 := BW.trans (hb.mono (by first | omega | (simp; try omega)))
    have CD : Below w11.heap.size w11 w12 := BD.trans (hb.mono (by first | omega | (simp; try omega)))
    clear Bw BW BD
    have Bw := Cw
    clear Cw
    have BW := CW
    clear CW
    have BD := CD
    clear CD
    clear hb
    go_wp2_with fail
    refine (c_laws_toTaintS d0 _ _ _ (h0.now Bw) hn).mono ?_
    rintro e w13 ⟨A13, c13, rfl, hr13, hb⟩
    have z13 := hb.size
    (try simp at z13)
    have Cw : Below w.heap.size w w13 := Bw.trans (hb.mono (by first | omega | (simp; try omega)))
    have CW : Below w3.heap.size w3 w13 := BW.trans (hb.mono (by first | omega | (simp; try omega)))
    have CD : Below w11.heap.size w11 w13 := BD.trans (hb.mono (by first | omega | (simp; try omega)))
    clear Bw BW BD
    have Bw := Cw
    clear Cw
    have BW := CW
    clear CW
    have BD := CD
    clear CD
    clear hb
    go_wp2_with fail
    refine (c_impl_SortTaints d0 _ _ _ hr13 hn).mono ?_
    rintro e w14 ⟨A14, c14, rfl, R14, hb⟩
    rw [← HL.out, ← HB.out]
    rw [← HL.out] at R14
    have z14 := hb.size
    (try simp at z14)
    have Cw : Below w.heap.size w w14 := Bw.trans (hb.mono (by first | omega | (simp; try omega)))
    have CW : Below w3.heap.size w3 w14 := BW.trans (hb.mono (by first | omega | (simp; try omega)))
    have CD : Below w11.heap.size w11 w14 := BD.trans (hb.mono (by first | omega | (simp; try omega)))
    have CH := RowE.sl encT_len R14 HC.out
    clear R14
    clear Bw BW BD
    have Bw := Cw
    clear Cw
    have BW := CW
    clear CW
    have BD := CD
    clear CD
    clear hb
    go_wp2_with fail
    refine (c_laws_eqTaintS L _ _ _ _ _ CH (Sl_Taint.now CW.out BW)).mono ?_
    rintro e w15 ⟨rfl, hb⟩
    have z15 := hb.size
    (try simp at z15)
    have Cw : Below w.heap.size w w15 := Bw.trans (hb.mono (by first | omega | (simp; try omega)))
    have CW : Below w3.heap.size w3 w15 := BW.trans (hb.mono (by first | omega | (simp; try omega)))
    have CD : Below w11.heap.size w11 w15 := BD.trans (hb.mono (by first | omega | (simp; try omega)))
    clear Bw BW BD
    have Bw := Cw
    clear Cw
    have BW := CW
    clear CW
    have BD := CD
    clear CD
    clear hb
    go_wp2_with fail
    refine (c_laws_heldTaintS l11 _ _ _ _ (Sl_Taint.now CG11 BD) HM.out (by decide) (by rw [HE.out]; omega)).mono ?_
    rintro e w16 ⟨rfl, hb⟩
    rw [HE.out]
    have z16 := hb.size
    (try simp at z16)
    have Cw : Below w.heap.size w w16 := Bw.trans (hb.mono (by first | omega | (simp; try omega)))
    have CW : Below w3.heap.size w3 w16 := BW.trans (hb.mono (by first | omega | (simp; try omega)))
    have CD : Below w11.heap.size w11 w16 := BD.trans (hb.mono (by first | omega | (simp; try omega)))
    clear Bw BW BD
    have Bw := Cw
    clear Cw
    have BW := CW
    clear CW
    have BD := CD
    clear CD
    clear hb
    go_wp2_with fail
    go_ret
    exact ⟨rfl, Bw⟩
  · have hz := szI_neg hq
    have hz2 : szI 1048576 (nL nTaint d0) < 0 := by omega
    clear hz
    go_enter Try.func3, Try.ntmps3
    go_wp2_with (go_at_call 8; refine (c_laws_szTaintS d0 _ _ _ _ h0 (by omega) (by omega)).mono ?_; rintro e w1 ⟨rfl, hb⟩)
    go_ret
    exact ⟨rfl, (by repeat (first | (with_reducible exact Below.refl _ _) | (with_reducible refine ext_alloc ?_) | ((with_reducible refine ext_setCell ?_ ?_); focus (simp; (try omega))) | (with_reducible refine below_drewN ?_ _) | (with_reducible refine Below.drew ?_) | (with_reducible (apply ext_step; assumption))))⟩
end Go.Proofs.Ytmhlnbihppojmaa
