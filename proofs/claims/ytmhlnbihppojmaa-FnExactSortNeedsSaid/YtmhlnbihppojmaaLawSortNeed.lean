/- The walk of the law FnExactSortNeeds. No conditions. Written by wip/tools/genlawsortn.py. -/
import Derived.Test.YtmhlnbihppojmaaRowNeed
import Derived.Test.YtmhlnbihppojmaaHNeed
namespace Go.Proofs.Ytmhlnbihppojmaa
open Go.RowKit

theorem sum_values : ∀ (l : List Need) (d : Need), d ∈ l → d.values.length ≤ szL nNeed l
  | [], d, h => by simp at h
  | x :: l, d, h => by
    have hx : szL nNeed (x :: l) = nNeed x + szL nNeed l := rfl
    rcases List.mem_cons.1 h with rfl | h
    · have : d.values.length ≤ nNeed d := by
        unfold nNeed
        have := nL_def ByteArray.size d.values
        omega
      omega
    · have := sum_values l d h
      omega
theorem sortN_bound (l : List Need) (n : Nat) (h : ∀ d ∈ l, d.values.length ≤ n) : (sortNB l).1.length ≤ l.length ∧ ∀ d ∈ (sortNB l).1, d.values.length ≤ n := by
  unfold sortNB
  split
  · exact ⟨Nat.le_refl _, h⟩
  · split
    · exact ⟨Nat.le_refl _, h⟩
    · split
      · refine ⟨ordN_len l, fun d hd => ?_⟩
        have h1 := (ordB_all tot_N (l.map normN)).2 d |>.1 hd
        obtain ⟨d0, h2, rfl⟩ := List.mem_map.1 h1
        have h3 := ordB_len lessS eqS d0.values
        have h4 := h d0 h2
        show (valsB d0.values).length ≤ n
        unfold valsB
        omega
      · exact ⟨Nat.le_refl _, h⟩
theorem cnt_map {L : List NeedV} {l : List Need} (h : L.map (·.d) = l) (h1 : l.length ≤ 1048576) (h2 : ∀ d ∈ l, d.values.length ≤ 1048576) : cntN (L.map (·.d)) ≤ 1099513724928 := by
  rw [h]
  have h3 := cntN_bound 1048576 l h2
  have h4 : l.length * (2 + 1048576) ≤ 1048576 * (2 + 1048576) := Nat.mul_le_mul_right _ h1
  omega
theorem cnt_lens {L M : List NeedV} (h : L.map (fun z => z.d.values.length) = M.map (fun z => z.d.values.length)) : cntN (L.map (·.d)) = cntN (M.map (·.d)) := by
  apply cntN_same
  rw [List.map_map, List.map_map]
  exact h

set_option maxHeartbeats 8000000 in
set_option maxRecDepth 20000 in
theorem w_FnExactSortNeeds (d0 : List Need) (v0 : Value) (w : World) (h0 : R_Needs w d0 v0) :
    Calls Try.prog 6 #[v0] w fun e w' => e = .returned (.bool true) ∧ Below w.heap.size w w' := by
  have h1 := h0
  obtain ⟨A0, c0, rfl⟩ := h1.form
  by_cases hq : ((nL nNeed d0 : Nat) : Int) ≤ 1048576
  · have hz := szI_pos hq
    have hz2 : ¬ szI 1048576 (nL nNeed d0) < 0 := by omega
    have hnN : nL nNeed d0 ≤ 1048576 := by omega
    have hn : d0.length ≤ 1048576 := by have := nL_def nNeed d0; omega
    have HV := Lib.hid (show ∀ d ∈ d0, d.values.length ≤ 1048576 from fun d hd => by have := sum_values d0 d hd; have := nL_def nNeed d0; omega)
    obtain ⟨hsb1, hsb2⟩ := sortN_bound d0 1048576 HV.out
    obtain ⟨Lw, hL⟩ : ∃ L, L = (sortNB d0).1 := ⟨_, rfl⟩
    obtain ⟨B, hB⟩ : ∃ B, B = (sortNB d0).2 := ⟨_, rfl⟩
    rw [← hL] at hsb1 hsb2
    have hL1 : Lw.length ≤ 1048576 := by omega
    have HL := Lib.hid hL
    have HB := Lib.hid hB
    have HVL := Lib.hid hsb2
    clear hz hL hB hsb2 h1
    go_enter Try.func6, Try.ntmps6
    have Bw : Below w.heap.size w w := Below.refl _ _
    go_wp2_with fail
    refine (c_laws_szNeedS d0 _ _ _ _ h0 (by omega) (by omega)).mono ?_
    rintro e w1 ⟨rfl, hb⟩
    have z1 := hb.size
    (try simp at z1)
    have Cw : Below w.heap.size w w1 := Bw.trans (hb.mono (by first | omega | (simp; try omega)))
    have Bw := Cw
    clear Cw
    clear hb
    go_wp2_with fail
    refine (c_laws_toNeedS d0 _ _ _ (h0.now Bw) hnN).mono ?_
    rintro e w2 ⟨A2, c2, rfl, hr2, hb⟩
    have z2 := hb.size
    (try simp at z2)
    have Cw : Below w.heap.size w w2 := Bw.trans (hb.mono (by first | omega | (simp; try omega)))
    clear Bw
    have Bw := Cw
    clear Cw
    clear hb
    go_wp2_with fail
    refine (c_spec_SortNeeds d0 _ _ _ hr2 hn HV.out).mono ?_
    rintro e w3 ⟨L3, A3, c3, rfl, hL3, R3, N3, hb⟩
    rw [← HL.out, ← HB.out]
    rw [← HL.out] at R3 hL3
    have z3 := hb.size
    (try simp at z3)
    have Cw : Below w.heap.size w w3 := Bw.trans (hb.mono (by first | omega | (simp; try omega)))
    have CW := Lib.hid (show Sl_Need w2.heap.size w3.heap.size w3 Lw (.slice A3 Lw.length c3) by have h9 := row_needs R3 N3; rw [hL3] at h9; exact h9)
    clear R3 N3 hL3
    clear Bw
    have Bw := Cw
    clear Cw
    clear hb
    have BW : Below w3.heap.size w3 w3 := Below.refl _ _
    go_wp2_with fail
    refine (c_laws_toNeedSO d0 _ _ _ (h0.now Bw) hnN).mono ?_
    rintro e w4 ⟨L4, A4, c4, rfl, hL4, O4, hb⟩
    have z4 := hb.size
    (try simp at z4)
    have Cw : Below w.heap.size w w4 := Bw.trans (hb.mono (by first | omega | (simp; try omega)))
    have CW : Below w3.heap.size w3 w4 := BW.trans (hb.mono (by first | omega | (simp; try omega)))
    have OX := O4.carry (S' := fun b => w3.heap.size ≤ b ∧ b < w4.heap.size) (fun _ _ => rfl) (fun b hb => by simpa using hb)
    have CX : Sl_Need w3.heap.size w4.heap.size w4 d0 (.slice A4 d0.length c4) := by have h9 := OX.toC (fun b hb => hb); rw [hL4] at h9; exact h9
    have HC4 := Lib.hid (cnt_map hL4 hn HV.out)
    clear O4 hL4
    clear Bw BW
    have Bw := Cw
    clear Cw
    have BW := CW
    clear CW
    clear hb
    have BX : Below w4.heap.size w4 w4 := Below.refl _ _
    go_wp2_with fail
    refine (c_impl_SortNeeds d0 _ _ _ CX hn HV.out).mono ?_
    rintro e w5 ⟨L5, A5, c5, rfl, hL5, R5, N5, P5, hb⟩
    rw [← HL.out, ← HB.out]
    rw [← HL.out] at R5 hL5
    have z5 := hb.size
    (try simp at z5)
    have Cw : Below w.heap.size w w5 := Bw.trans (hb.mono (by first | omega | (simp; try omega)))
    have CW : Below w3.heap.size w3 w5 := BW.trans (hb.mono (by first | omega | (simp; try omega)))
    have CX : Below w4.heap.size w4 w5 := BX.trans (hb.mono (by first | omega | (simp; try omega)))
    have RG := (OwnL.of_rows R5 N5 P5).carry (S' := fun b => w4.heap.size ≤ b ∧ b < w5.heap.size) (fun _ _ => rfl) (fun b hb => hb)
    have CG : Sl_Need w4.heap.size w5.heap.size w5 Lw (.slice A5 Lw.length c5) := by have h9 := RG.toC (fun b hb => hb); rw [hL5] at h9; exact h9
    have HC5 := Lib.hid (cnt_map hL5 hL1 HVL.out)
    have HL5 := Lib.hid hL5
    clear R5 N5 P5 hL5
    clear Bw BW BX
    have Bw := Cw
    clear Cw
    have BW := CW
    clear CW
    have BX := CX
    clear CX
    clear hb
    have BG : Below w5.heap.size w5 w5 := Below.refl _ _
    go_wp2_with fail
    refine (c_laws_eqNeedS Lw _ _ _ _ _ CG (Sl_Need.now CW.out BW)).mono ?_
    rintro e w6 ⟨rfl, hb⟩
    have z6 := hb.size
    (try simp at z6)
    have Cw : Below w.heap.size w w6 := Bw.trans (hb.mono (by first | omega | (simp; try omega)))
    have CW : Below w3.heap.size w3 w6 := BW.trans (hb.mono (by first | omega | (simp; try omega)))
    have CX : Below w4.heap.size w4 w6 := BX.trans (hb.mono (by first | omega | (simp; try omega)))
    have CG : Below w5.heap.size w5 w6 := BG.trans (hb.mono (by first | omega | (simp; try omega)))
    clear Bw BW BX BG
    have Bw := Cw
    clear Cw
    have BW := CW
    clear CW
    have BX := CX
    clear CX
    have BG := CG
    clear CG
    clear hb
    go_wp2_with fail
    refine (c_laws_toNeedS d0 _ _ _ (h0.now Bw) hnN).mono ?_
    rintro e w7 ⟨A7, c7, rfl, hr7, hb⟩
    have z7 := hb.size
    (try simp at z7)
    have Cw : Below w.heap.size w w7 := Bw.trans (hb.mono (by first | omega | (simp; try omega)))
    have CW : Below w3.heap.size w3 w7 := BW.trans (hb.mono (by first | omega | (simp; try omega)))
    have CX : Below w4.heap.size w4 w7 := BX.trans (hb.mono (by first | omega | (simp; try omega)))
    have CG : Below w5.heap.size w5 w7 := BG.trans (hb.mono (by first | omega | (simp; try omega)))
    clear Bw BW BX BG
    have Bw := Cw
    clear Cw
    have BW := CW
    clear CW
    have BX := CX
    clear CX
    have BG := CG
    clear CG
    clear hb
    go_wp2_with fail
    refine (c_laws_eqNeedS d0 _ _ _ _ _ (Sl_Need.now CX BX) hr7).mono ?_
    rintro e w8 ⟨rfl, hb⟩
    have z8 := hb.size
    (try simp at z8)
    have Cw : Below w.heap.size w w8 := Bw.trans (hb.mono (by first | omega | (simp; try omega)))
    have CW : Below w3.heap.size w3 w8 := BW.trans (hb.mono (by first | omega | (simp; try omega)))
    have CX : Below w4.heap.size w4 w8 := BX.trans (hb.mono (by first | omega | (simp; try omega)))
    have CG : Below w5.heap.size w5 w8 := BG.trans (hb.mono (by first | omega | (simp; try omega)))
    clear Bw BW BX BG
    have Bw := Cw
    clear Cw
    have BW := CW
    clear CW
    have BX := CX
    clear CX
    have BG := CG
    clear CG
    clear hb
    go_wp2_with fail
    refine (c_laws_markNeedS L4 _ _ _ _ (OX.carry (w' := w8) (fun b hb => BX.block b hb.2) (fun _ h => h)) (fun b hb => by omega) (by decide) (by have := HC4.out; omega)).mono ?_
    rintro e w9 ⟨l9, rfl, -, -, -, hb⟩
    obtain ⟨n4, hn4⟩ : ∃ n, n = cntN (L4.map (·.d)) := ⟨_, rfl⟩
    have hn4b : (n4 : Int) ≤ 1099513724928 := by have := HC4.out; omega
    rw [← hn4]
    clear hn4
    have z9 := hb.size
    have Cw : Below w.heap.size w w9 := Bw.trans (hb.below (by omega) (fun i hi => by omega))
    have CW : Below w3.heap.size w3 w9 := BW.trans (hb.below (by omega) (fun i hi => by omega))
    have RG9 := RG.carry (w' := w9) (fun b hq => (hb.block b (by omega) (by omega)).trans (BG.block b hq.2)) (fun _ h => h)
    have CG9 : Sl_Need w4.heap.size w9.heap.size w9 Lw (.slice A5 Lw.length c5) := by have h9 := RG9.toC (lo := w4.heap.size) (hi := w9.heap.size) (fun b hq => ⟨hq.1, by omega⟩); rw [HL5.out] at h9; exact h9
    clear OX RG CG
    clear Bw BW
    have Bw := Cw
    clear Cw
    have BW := CW
    clear CW
    clear hb
    go_wp2_with fail
    refine (c_laws_eqNeedS Lw _ _ _ _ _ CG9 (Sl_Need.now CW.out BW)).mono ?_
    rintro e w10 ⟨rfl, hb⟩
    have z10 := hb.size
    (try simp at z10)
    have Cw : Below w.heap.size w w10 := Bw.trans (hb.mono (by first | omega | (simp; try omega)))
    have CW : Below w3.heap.size w3 w10 := BW.trans (hb.mono (by first | omega | (simp; try omega)))
    have RG10 := RG9.carry (w' := w10) (fun b hq => hb.block b (by omega)) (fun _ h => h)
    clear RG9 CG9
    clear Bw BW
    have Bw := Cw
    clear Cw
    have BW := CW
    clear CW
    clear hb
    go_wp2_with fail
    refine (c_laws_markNeedS L5 _ _ _ _ RG10 (fun b hb => by omega) (by decide) (by have := HC5.out; omega)).mono ?_
    rintro e w11 ⟨l11, rfl, EL, RG11, MG, hb⟩
    obtain ⟨n5, hn5⟩ : ∃ n, n = cntN (L5.map (·.d)) := ⟨_, rfl⟩
    have hn5b : (n5 : Int) ≤ 1099513724928 := by have := HC5.out; omega
    rw [← hn5]
    have HN5 := Lib.hid hn5
    clear hn5
    have z11 := hb.size
    have Cw : Below w.heap.size w w11 := Bw.trans (hb.below (by omega) (fun i hi => by omega))
    have CW : Below w3.heap.size w3 w11 := BW.trans (hb.below (by omega) (fun i hi => by omega))
    have CG11 := RG11.toC (lo := w4.heap.size) (hi := w11.heap.size) (fun b hq => ⟨hq.1, by omega⟩)
    have HE := Lib.hid (show cntN (l11.map (·.d)) = n5 by rw [cnt_lens EL]; exact HN5.out.symm)
    have HM := Lib.hid MG
    clear RG10 RG11 EL MG
    clear Bw BW
    have Bw := Cw
    clear Cw
    have BW := CW
    clear CW
    clear hb
    have BD : Below w11.heap.size w11 w11 := Below.refl _ _
    go_wp2_with fail
    refine (c_laws_heldNeedS (l11.map (·.d)) _ _ _ _ CG11 HM.out (by decide) (by rw [HE.out]; omega)).mono ?_
    rintro e w12 ⟨rfl, hb⟩
    rw [HE.out]
    have z12 := hb.size
    (try simp at z12)
    have Cw : Below w.heap.size w w12 := Bw.trans (hb.mono (by first | omega | (simp; try omega)))
    have CW : Below w3.heap.size w3 w12 := BW.trans (hb.mono (by first | omega | (simp; try omega)))
    have CD : Below w11.heap.size w11 w12 := BD.trans (hb.mono (by first | omega | (simp; try omega)))
    clear Bw BW BD
    have Bw := Cw
    clear Cw
    have BW := CW
    clear CW
    have BD := CD
    clear CD
    clear hb
    go_wp2_with fail
    refine (c_laws_toNeedS d0 _ _ _ (h0.now Bw) hnN).mono ?_
    rintro e w13 ⟨A13, c13, rfl, hr13, hb⟩
    have z13 := hb.size
    (try simp at z13)
    have Cw : Below w.heap.size w w13 := Bw.trans (hb.mono (by first | omega | (simp; try omega)))
    have CW : Below w3.heap.size w3 w13 := BW.trans (hb.mono (by first | omega | (simp; try omega)))
    have CD : Below w11.heap.size w11 w13 := BD.trans (hb.mono (by first | omega | (simp; try omega)))
    clear Bw BW BD
    have Bw := Cw
    clear Cw
    have BW := CW
    clear CW
    have BD := CD
    clear CD
    clear hb
    go_wp2_with fail
    refine (c_impl_SortNeeds d0 _ _ _ hr13 hn HV.out).mono ?_
    rintro e w14 ⟨L14, A14, c14, rfl, hL14, R14, N14, -, hb⟩
    rw [← HL.out, ← HB.out]
    rw [← HL.out] at R14 hL14
    have z14 := hb.size
    (try simp at z14)
    have Cw : Below w.heap.size w w14 := Bw.trans (hb.mono (by first | omega | (simp; try omega)))
    have CW : Below w3.heap.size w3 w14 := BW.trans (hb.mono (by first | omega | (simp; try omega)))
    have CD : Below w11.heap.size w11 w14 := BD.trans (hb.mono (by first | omega | (simp; try omega)))
    have CH : Sl_Need w13.heap.size w14.heap.size w14 Lw (.slice A14 Lw.length c14) := by have h9 := row_needs R14 N14; rw [hL14] at h9; exact h9
    clear R14 N14 hL14
    clear Bw BW BD
    have Bw := Cw
    clear Cw
    have BW := CW
    clear CW
    have BD := CD
    clear CD
    clear hb
    go_wp2_with fail
    refine (c_laws_eqNeedS Lw _ _ _ _ _ CH (Sl_Need.now CW.out BW)).mono ?_
    rintro e w15 ⟨rfl, hb⟩
    have z15 := hb.size
    (try simp at z15)
    have Cw : Below w.heap.size w w15 := Bw.trans (hb.mono (by first | omega | (simp; try omega)))
    have CW : Below w3.heap.size w3 w15 := BW.trans (hb.mono (by first | omega | (simp; try omega)))
    have CD : Below w11.heap.size w11 w15 := BD.trans (hb.mono (by first | omega | (simp; try omega)))
    clear Bw BW BD
    have Bw := Cw
    clear Cw
    have BW := CW
    clear CW
    have BD := CD
    clear CD
    clear hb
    go_wp2_with fail
    refine (c_laws_heldNeedS (l11.map (·.d)) _ _ _ _ (Sl_Need.now CG11 BD) HM.out (by decide) (by rw [HE.out]; omega)).mono ?_
    rintro e w16 ⟨rfl, hb⟩
    rw [HE.out]
    have z16 := hb.size
    (try simp at z16)
    have Cw : Below w.heap.size w w16 := Bw.trans (hb.mono (by first | omega | (simp; try omega)))
    have CW : Below w3.heap.size w3 w16 := BW.trans (hb.mono (by first | omega | (simp; try omega)))
    have CD : Below w11.heap.size w11 w16 := BD.trans (hb.mono (by first | omega | (simp; try omega)))
    clear Bw BW BD
    have Bw := Cw
    clear Cw
    have BW := CW
    clear CW
    have BD := CD
    clear CD
    clear hb
    go_wp2_with fail
    go_ret
    exact ⟨rfl, Bw⟩
  · have hz := szI_neg hq
    have hz2 : szI 1048576 (nL nNeed d0) < 0 := by omega
    clear hz
    go_enter Try.func6, Try.ntmps6
    go_wp2_with (go_at_call 29; refine (c_laws_szNeedS d0 _ _ _ _ h0 (by omega) (by omega)).mono ?_; rintro e w1 ⟨rfl, hb⟩)
    go_ret
    exact ⟨rfl, (by repeat (first | (with_reducible exact Below.refl _ _) | (with_reducible refine ext_alloc ?_) | ((with_reducible refine ext_setCell ?_ ?_); focus (simp; (try omega))) | (with_reducible refine below_drewN ?_ _) | (with_reducible refine Below.drew ?_) | (with_reducible (apply ext_step; assumption))))⟩
end Go.Proofs.Ytmhlnbihppojmaa
