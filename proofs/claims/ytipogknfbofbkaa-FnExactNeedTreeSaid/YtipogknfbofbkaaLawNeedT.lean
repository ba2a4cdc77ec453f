/- The walk of the law FnExactNeedTree. No conditions. Written by wip/tools/genlawneedt.py. -/
import Derived.Test.YtipogknfbofbkaaNeedT
import Derived.Test.YtipogknfbofbkaaLawTell
import Derived.Test.YtipogknfbofbkaaToOwn
import Derived.Test.YtipogknfbofbkaaHNeed
namespace Go.Proofs.Ytipogknfbofbkaa
open Go.RowKit

theorem cntL_leaf2 : ∀ ts : List ByteArray, cntL 2 (ts.map leafD) = 4 * ts.length
  | [] => rfl
  | t :: ts => by
    have h : cntT 2 (leafD t) = 0 := by rw [cntT_succ]; rfl
    show 4 + cntT 2 (leafD t) + cntL 2 (ts.map leafD) = 4 * (ts.length + 1)
    rw [h, cntL_leaf2 ts]
    omega
theorem cnt_need (d : Need) : cntT 3 (needT d) ≤ 4194304 := by
  unfold needT
  split
  · rename_i h
    have hf := (need_few h).1
    split
    · rw [cntT_succ]
      show 2 + cntL 2 ([d.key, opW d.op].map leafD) ≤ 4194304
      rw [cntL_leaf2]
      simp
    · rw [cntT_succ]
      have h1 : cntT 2 (leafD d.key) = 0 := by rw [cntT_succ]; rfl
      have h2 : cntT 2 (leafD (opW d.op)) = 0 := by rw [cntT_succ]; rfl
      have h3 : cntT 2 (listT d.values) = 4 * d.values.length := by
        rw [cntT_succ]
        show 0 + cntL 1 (d.values.map leafD) = _
        rw [cntL_leaf]; omega
      show 3 + (4 + cntT 2 (leafD d.key) + (4 + cntT 2 (leafD (opW d.op)) + (4 + cntT 2 (listT d.values) + 0))) ≤ 4194304
      omega
  · rw [cntT_succ]; decide
set_option maxHeartbeats 1000000 in
theorem c_laws_toNeedO (d : Need) (cs : List Value) (w : World) (lo : Nat) (h : C_Need lo w.heap.size w d cs) (hn : nNeed d ≤ 1048576) :
    Calls Try.prog 34 #[.agg cs.toArray] w fun e w' => ∃ B b, e = .returned (.agg #[.string d.key, .int .i64 d.op, .slice B d.values.length b]) ∧ OwnS (fun q => w.heap.size ≤ q ∧ q < w'.heap.size) w' d.values (.slice B d.values.length b) ∧ Below w.heap.size w w' := by
  obtain ⟨v2, rfl, a0, a1, a2⟩ := h
  obtain ⟨A2, c2, rfl⟩ := a2.form
  unfold I64 at a1
  unfold nNeed at hn
  have m2 : d.values.length ≤ 1048576 := by have := nL_def ByteArray.size d.values; omega
  go_enter Try.func34, Try.ntmps34
  go_wp2_with fail
  refine (c_laws_toStringSO _ _ _ _ (Sl_Str.now (by assumption) (by repeat (first | (with_reducible exact Below.refl _ _) | (with_reducible refine ext_alloc ?_) | ((with_reducible refine ext_setCell ?_ ?_); focus (simp; (try omega))) | (with_reducible refine below_drewN ?_ _) | (with_reducible refine Below.drew ?_) | (with_reducible (apply ext_step; assumption))))) (by omega)).mono ?_
  rintro e w2 ⟨B2, b2, rfl, r2, hb⟩
  have HR := Lib.hid r2
  clear r2
  (first | (have hcu2 := Cum.join hcu hb; (try clear hcu); (try clear hc); (try clear hfz); (try clear hsz); (try clear hs0); (try clear hs1); (try clear hs2); (try clear hs3); (try clear hs4); ) | have hcu2 := Cum.mk hb); have hcu := hcu2; clear hcu2; obtain ⟨hc, hfz⟩ := bcell hcu.h; have hsz := hcu.h.size; (try simp at hsz); (try have hs0 := lt_of_succ_le hsz); (try (have hs1 := lt_pred hsz; (try (have hs2 := lt_pred hs1; (try (have hs3 := lt_pred hs2; (try have hs4 := lt_pred hs3)))))))
  have st2 := hb.size
  (try simp at st2)
  go_wp2_with fail
  exact bodyPost_ret (v := .agg #[.string d.key, .int .i64 d.op, .slice B2 d.values.length b2]) (by simp only [results, Try.results34]; go_simp) rfl ⟨B2, b2, rfl, HR.out.carry (fun q hq => Aside.block (S := fun i => i = w.heap.size + 1 ∨ i = w.heap.size + 1 + 1) (w := w2) (by repeat (first | (with_reducible exact Aside.refl _ _) | ((with_reducible refine aside_set ?_ ?_); (focus (simp; done))) | (with_reducible refine aside_alloc ?_))) q hq.2 (by have := hq.1; simp at this; omega)) (fun q hq => by have h1 := hq.1; have h2 := hq.2; simp at h1 ⊢; omega), (by repeat (first | (with_reducible exact Below.refl _ _) | (with_reducible refine ext_alloc ?_) | ((with_reducible refine ext_setCell ?_ ?_); focus (simp; (try omega))) | (with_reducible refine below_drewN ?_ _) | (with_reducible refine Below.drew ?_) | (with_reducible (apply ext_step; assumption))))⟩
theorem c_laws_markNeed (d : Need) (B : Option Addr) (b : Nat) (x : Int) (w : World) (S : Nat → Prop) (h : OwnS S w d.values (.slice B d.values.length b)) (hSb : ∀ b, S b → b < w.heap.size) (h1 : 0 < x) (h2 : x + d.values.length ≤ 2305843009213693952) :
    Calls Try.prog 75 #[.agg #[.string d.key, .int .i64 d.op, .slice B d.values.length b], .int .i64 x] w fun e w' => e = .returned (.int .i64 (x + d.values.length)) ∧ Aside S w w' := by
  go_enter Try.func75, Try.ntmps75
  go_wp2_with fail
  refine (c_laws_markStringS d.values _ _ _ S (h.carry (fun q hq => Below.heap_alloc _ _ q (hSb q hq)) (fun _ h => h)) (fun q hq => by have := hSb q hq; simp; omega) h1 h2).mono ?_
  rintro e w2 ⟨l', rfl, -, -, -, hA⟩
  have HA := Lib.hid hA
  clear hA
  go_wp2_with fail
  go_ret
  exact ⟨rfl, ⟨HA.out.os, HA.out.tape, HA.out.output, Nat.le_trans (by simp) HA.out.size, fun q hq hn => (HA.out.block q (by simp; omega) hn).trans (Below.heap_alloc _ _ q hq)⟩⟩

set_option maxHeartbeats 4000000 in
set_option maxRecDepth 10000 in
theorem w_FnExactNeedTree (d0 : Need) (v0 : Value) (w : World) (h0 : R_Need w d0 v0) :
    Calls Try.prog 14 #[v0] w fun e w' => e = .returned (.bool true) ∧ Below w.heap.size w w' := by
  obtain ⟨cs, rfl, hC⟩ := h0
  have hC1 := hC
  obtain ⟨v2, rfl, a0, a1, a2⟩ := hC1
  obtain ⟨A0, c0, rfl⟩ := a2.form
  clear a2
  by_cases hq : ((nNeed d0 : Nat) : Int) ≤ 1048576
  · have hz := szI_pos hq
    have hz2 : ¬ szI 1048576 (nNeed d0) < 0 := by omega
    have hn : nNeed d0 ≤ 1048576 := by omega
    have hvs : nL ByteArray.size d0.values ≤ 1048576 := by unfold nNeed at hn; omega
    have hvl : d0.values.length ≤ 1048576 := by have := nL_def ByteArray.size d0.values; omega
    obtain ⟨T, hT⟩ : ∃ T, T = needT d0 := ⟨_, rfl⟩
    have Hc : cntT 3 T ≤ 4194304 := by rw [hT]; exact cnt_need _
    have HT := Lib.hid hT
    have HC := Lib.hid Hc
    have HCN := Lib.hid hC
    clear hz hT Hc hC
    go_enter Try.func14, Try.ntmps14
    have Bw : Below w.heap.size w w := Below.refl _ _
    go_wp2_with fail
    refine (c_laws_szNeed d0 [.string d0.key, .int .i64 d0.op, .slice A0 d0.values.length c0] _ _ _ (C_Need.now HCN.out (by repeat (first | (with_reducible exact Below.refl _ _) | (with_reducible refine ext_alloc ?_) | ((with_reducible refine ext_setCell ?_ ?_); focus (simp; (try omega))) | (with_reducible refine below_drewN ?_ _) | (with_reducible refine Below.drew ?_) | (with_reducible (apply ext_step; assumption))))) (by omega) (by omega)).mono ?_
    rintro e w1 ⟨rfl, hb⟩
    have z1 := hb.size
    (try simp at z1)
    have SA : w1.heap[w.heap.size]? = some (.cells #[.string d0.key, .int .i64 d0.op, .slice A0 d0.values.length c0] 49 (0, 0)) := (hb.block (w.heap.size) (by first | omega | (simp; try omega))).trans (heap_at (by simp))
    have Cw : Below w.heap.size w w1 := (Bw.alloc (by first | omega | (simp; try omega)) _).trans (hb.mono (by first | omega | (simp; try omega)))
    obtain ⟨xA0, xA1, xA2, xAf⟩ := row3 SA
    have lA := row_lt SA
    have mA := Nat.lt_succ_of_lt lA
    have nA := Nat.lt_succ_of_lt mA
    have RA := Lib.hid SA
    clear SA
    have Bw := Cw
    clear Cw
    clear hb
    go_wp2_with fail
    refine (c_laws_toNeed d0 [.string d0.key, .int .i64 d0.op, .slice A0 d0.values.length c0] _ _ (C_Need.now HCN.out Bw) hn).mono ?_
    rintro e w2 ⟨cs2, rfl, hr2, hb⟩
    obtain ⟨A2, c2, rfl⟩ := C_Need.open hr2
    have z2 := hb.size
    (try simp at z2)
    have SA : w2.heap[w.heap.size]? = some (.cells #[.string d0.key, .int .i64 d0.op, .slice A0 d0.values.length c0] 49 (0, 0)) := (hb.block (w.heap.size) (by first | omega | (simp; try omega))).trans RA.out
    have Cw : Below w.heap.size w w2 := Bw.trans (hb.mono (by first | omega | (simp; try omega)))
    clear RA Bw xA0 xA1 xA2 xAf lA mA nA
    obtain ⟨xA0, xA1, xA2, xAf⟩ := row3 SA
    have lA := row_lt SA
    have mA := Nat.lt_succ_of_lt lA
    have nA := Nat.lt_succ_of_lt mA
    have RA := Lib.hid SA
    clear SA
    have Bw := Cw
    clear Cw
    clear hb
    go_wp2_with fail
    refine (c_spec_NeedTree 0 d0 _ _ _ hr2 hvs).mono ?_
    rintro e w3 ⟨cs3, rfl, T3, hb⟩
    rw [← HT.out] at T3
    obtain ⟨D4, e4, D5, e5, rfl, -⟩ := T3.flat
    have z3 := hb.size
    (try simp at z3)
    have SA : w3.heap[w.heap.size]? = some (.cells #[.string d0.key, .int .i64 d0.op, .slice A0 d0.values.length c0] 49 (0, 0)) := (hb.block (w.heap.size) (by first | omega | (simp; try omega))).trans RA.out
    have Cw : Below w.heap.size w w3 := Bw.trans (hb.mono (by first | omega | (simp; try omega)))
    have CW := T3.toC (fun b hb => hb)
    clear T3
    clear RA Bw xA0 xA1 xA2 xAf lA mA nA
    obtain ⟨xA0, xA1, xA2, xAf⟩ := row3 SA
    have lA := row_lt SA
    have mA := Nat.lt_succ_of_lt lA
    have nA := Nat.lt_succ_of_lt mA
    have RA := Lib.hid SA
    clear SA
    have Bw := Cw
    clear Cw
    clear hb
    have BW : Below w3.heap.size w3 w3 := Below.refl _ _
    go_wp2_with fail
    refine (c_laws_toNeedO d0 [.string d0.key, .int .i64 d0.op, .slice A0 d0.values.length c0] _ _ (C_Need.now HCN.out (Bw.alloc (by first | omega | (simp; try omega)) _)) hn).mono ?_
    rintro e w4 ⟨A4, c4, rfl, O4, hb⟩
    have z4 := hb.size
    (try simp at z4)
    have SA : w4.heap[w.heap.size]? = some (.cells #[.string d0.key, .int .i64 d0.op, .slice A0 d0.values.length c0] 49 (0, 0)) := (hb.block (w.heap.size) (by first | omega | (simp; try omega))).trans ((Below.heap_alloc _ _ _ (by first | omega | (simp; try omega))).trans RA.out)
    have SM : w4.heap[w3.heap.size]? = some (.cells #[.int .i64 T.kind, .bool T.flag, .int .i64 T.num, .string T.text, .slice D4 T.keys.length e4, .slice D5 T.kids.length e5] 40 (0, 0)) := (hb.block (w3.heap.size) (by first | omega | (simp; try omega))).trans (heap_at (by simp))
    have Cw : Below w.heap.size w w4 := (Bw.alloc (by first | omega | (simp; try omega)) _).trans (hb.mono (by first | omega | (simp; try omega)))
    have CW : Below w3.heap.size w3 w4 := (BW.alloc (by first | omega | (simp; try omega)) _).trans (hb.mono (by first | omega | (simp; try omega)))
    have OX := O4.carry (S' := fun b => w3.heap.size + 1 ≤ b ∧ b < w4.heap.size) (fun _ _ => rfl) (fun b hb => by simpa using hb)
    have CX : C_Need (w3.heap.size + 1) w4.heap.size w4 d0 [.string d0.key, .int .i64 d0.op, .slice A4 d0.values.length c4] := ⟨_, rfl, a0, a1, OX.toC (fun b hb => hb)⟩
    clear O4
    clear RA Bw BW xA0 xA1 xA2 xAf lA mA nA
    obtain ⟨xA0, xA1, xA2, xAf⟩ := row3 SA
    have lA := row_lt SA
    have mA := Nat.lt_succ_of_lt lA
    have nA := Nat.lt_succ_of_lt mA
    have RA := Lib.hid SA
    clear SA
    obtain ⟨xM0, xM1, xM2, xM3, xM4, xM5, xMf⟩ := row6 SM
    have lM := row_lt SM
    have mM := Nat.lt_succ_of_lt lM
    have nM := Nat.lt_succ_of_lt mM
    have RM := Lib.hid SM
    clear SM
    have Bw := Cw
    clear Cw
    have BW := CW
    clear CW
    clear hb
    have BX : Below w4.heap.size w4 w4 := Below.refl _ _
    go_wp2_with fail
    refine (c_impl_NeedTree 0 d0 [.string d0.key, .int .i64 d0.op, .slice A4 d0.values.length c4] _ _ (C_Need.now CX (BX.alloc (Nat.le_refl _) _))).mono ?_
    rintro e w5 ⟨cs5, rfl, T5, hb⟩
    rw [← HT.out] at T5
    obtain ⟨G4, i4, G5, i5, rfl, -⟩ := T5.flat
    have z5 := hb.size
    (try simp at z5)
    have SA : w5.heap[w.heap.size]? = some (.cells #[.string d0.key, .int .i64 d0.op, .slice A0 d0.values.length c0] 49 (0, 0)) := (hb.block (w.heap.size) (by first | omega | (simp; try omega))).trans ((Below.heap_alloc _ _ _ (by first | omega | (simp; try omega))).trans RA.out)
    have SM : w5.heap[w3.heap.size]? = some (.cells #[.int .i64 T.kind, .bool T.flag, .int .i64 T.num, .string T.text, .slice D4 T.keys.length e4, .slice D5 T.kids.length e5] 40 (0, 0)) := (hb.block (w3.heap.size) (by first | omega | (simp; try omega))).trans ((Below.heap_alloc _ _ _ (by first | omega | (simp; try omega))).trans RM.out)
    have SX : w5.heap[w4.heap.size]? = some (.cells #[.string d0.key, .int .i64 d0.op, .slice A4 d0.values.length c4] 55 (0, 0)) := (hb.block (w4.heap.size) (by first | omega | (simp; try omega))).trans (heap_at (by simp))
    have Cw : Below w.heap.size w w5 := (Bw.alloc (by first | omega | (simp; try omega)) _).trans (hb.mono (by first | omega | (simp; try omega)))
    have CW : Below w3.heap.size w3 w5 := (BW.alloc (by first | omega | (simp; try omega)) _).trans (hb.mono (by first | omega | (simp; try omega)))
    have CX : Below w4.heap.size w4 w5 := (BX.alloc (by first | omega | (simp; try omega)) _).trans (hb.mono (by first | omega | (simp; try omega)))
    have TG := T5.carry (S' := fun b => w4.heap.size + 1 ≤ b ∧ b < w5.heap.size) (fun _ _ => rfl) (fun b hb => by simpa using hb)
    have CG := TG.toC (fun b hb => hb)
    clear T5
    clear RA RM Bw BW BX xA0 xA1 xA2 xM0 xM1 xM2 xM3 xM4 xM5 xAf xMf lA mA nA lM mM nM
    obtain ⟨xA0, xA1, xA2, xAf⟩ := row3 SA
    have lA := row_lt SA
    have mA := Nat.lt_succ_of_lt lA
    have nA := Nat.lt_succ_of_lt mA
    have RA := Lib.hid SA
    clear SA
    obtain ⟨xM0, xM1, xM2, xM3, xM4, xM5, xMf⟩ := row6 SM
    have lM := row_lt SM
    have mM := Nat.lt_succ_of_lt lM
    have nM := Nat.lt_succ_of_lt mM
    have RM := Lib.hid SM
    clear SM
    obtain ⟨xX0, xX1, xX2, xXf⟩ := row3 SX
    have lX := row_lt SX
    have mX := Nat.lt_succ_of_lt lX
    have nX := Nat.lt_succ_of_lt mX
    have RX := Lib.hid SX
    clear SX
    have Bw := Cw
    clear Cw
    have BW := CW
    clear CW
    have BX := CX
    clear CX
    clear hb
    have BG : Below w5.heap.size w5 w5 := Below.refl _ _
    go_wp2_with fail
    refine (all_eqTree 3 T _ _ _ _ _ (CG.now (BG.alloc (by first | omega | (simp; try omega)) _)) (CW.now (BW.alloc (by first | omega | (simp; try omega)) _))).mono ?_
    rintro e w6 ⟨rfl, hb⟩
    have z6 := hb.size
    (try simp at z6)
    have SA : w6.heap[w.heap.size]? = some (.cells #[.string d0.key, .int .i64 d0.op, .slice A0 d0.values.length c0] 49 (0, 0)) := (hb.block (w.heap.size) (by first | omega | (simp; try omega))).trans ((Below.heap_alloc _ _ _ (by first | omega | (simp; try omega))).trans RA.out)
    have SM : w6.heap[w3.heap.size]? = some (.cells #[.int .i64 T.kind, .bool T.flag, .int .i64 T.num, .string T.text, .slice D4 T.keys.length e4, .slice D5 T.kids.length e5] 40 (0, 0)) := (hb.block (w3.heap.size) (by first | omega | (simp; try omega))).trans ((Below.heap_alloc _ _ _ (by first | omega | (simp; try omega))).trans RM.out)
    have SX : w6.heap[w4.heap.size]? = some (.cells #[.string d0.key, .int .i64 d0.op, .slice A4 d0.values.length c4] 55 (0, 0)) := (hb.block (w4.heap.size) (by first | omega | (simp; try omega))).trans ((Below.heap_alloc _ _ _ (by first | omega | (simp; try omega))).trans RX.out)
    have SG : w6.heap[w5.heap.size]? = some (.cells #[.int .i64 T.kind, .bool T.flag, .int .i64 T.num, .string T.text, .slice G4 T.keys.length i4, .slice G5 T.kids.length i5] 40 (0, 0)) := (hb.block (w5.heap.size) (by first | omega | (simp; try omega))).trans (heap_at (by simp))
    have Cw : Below w.heap.size w w6 := (Bw.alloc (by first | omega | (simp; try omega)) _).trans (hb.mono (by first | omega | (simp; try omega)))
    have CW : Below w3.heap.size w3 w6 := (BW.alloc (by first | omega | (simp; try omega)) _).trans (hb.mono (by first | omega | (simp; try omega)))
    have CX : Below w4.heap.size w4 w6 := (BX.alloc (by first | omega | (simp; try omega)) _).trans (hb.mono (by first | omega | (simp; try omega)))
    have CG : Below w5.heap.size w5 w6 := (BG.alloc (by first | omega | (simp; try omega)) _).trans (hb.mono (by first | omega | (simp; try omega)))
    clear RA RM RX Bw BW BX BG xA0 xA1 xA2 xM0 xM1 xM2 xM3 xM4 xM5 xX0 xX1 xX2 xAf xMf xXf lA mA nA lM mM nM lX mX nX
    obtain ⟨xA0, xA1, xA2, xAf⟩ := row3 SA
    have lA := row_lt SA
    have mA := Nat.lt_succ_of_lt lA
    have nA := Nat.lt_succ_of_lt mA
    have RA := Lib.hid SA
    clear SA
    obtain ⟨xM0, xM1, xM2, xM3, xM4, xM5, xMf⟩ := row6 SM
    have lM := row_lt SM
    have mM := Nat.lt_succ_of_lt lM
    have nM := Nat.lt_succ_of_lt mM
    have RM := Lib.hid SM
    clear SM
    obtain ⟨xX0, xX1, xX2, xXf⟩ := row3 SX
    have lX := row_lt SX
    have mX := Nat.lt_succ_of_lt lX
    have nX := Nat.lt_succ_of_lt mX
    have RX := Lib.hid SX
    clear SX
    obtain ⟨xG0, xG1, xG2, xG3, xG4, xG5, xGf⟩ := row6 SG
    have lG := row_lt SG
    have mG := Nat.lt_succ_of_lt lG
    have nG := Nat.lt_succ_of_lt mG
    have RG := Lib.hid SG
    clear SG
    have Bw := Cw
    clear Cw
    have BW := CW
    clear CW
    have BX := CX
    clear CX
    have BG := CG
    clear CG
    clear hb
    go_wp2_with fail
    have CX7 := C_Need.now CX BX
    go_region_held3 (fun w' => Below (w6).heap.size (w6) w' ∧ (∀ xb xo, xb < (w6).heap.size → w'.cell? ⟨xb, xo, none⟩ = (w6).cell? ⟨xb, xo, none⟩)) (first | exact keep_drew _ | exact keep_ext (by assumption) (by assumption) | exact keep_same (by assumption) | exact keep_alloc (by assumption) _) (first | (go_at_call 34; refine (c_laws_toNeed d0 [.string d0.key, .int .i64 d0.op, .slice A0 d0.values.length c0] _ _ (C_Need.now HCN.out (ext_trans Bw (by first | (with_reducible exact Below.refl _ _) | exact (keep_same (by assumption)).1))) hn).mono ?_; rintro e w8 ⟨cs8, rfl, hr8, hb8⟩; obtain ⟨y0, y1, rfl⟩ := C_Need.open hr8) | (go_at_call 37; refine (c_laws_eqNeed d0 [.string d0.key, .int .i64 d0.op, .slice A4 d0.values.length c4] _ _ _ _ (C_Need.now CX7 (by first | (with_reducible exact Below.refl _ _) | exact (keep_same (by assumption)).1)) (C_Need.now hr8 (by first | exact Below.refl _ _ | exact (Below.refl _ _).drew))).mono ?_; rintro e w8 ⟨rfl, hb8⟩))
    have hb := held_step (by assumption)
    have z7 := hb.size
    (try simp at z7)
    have SA : w8.heap[w.heap.size]? = some (.cells #[.string d0.key, .int .i64 d0.op, .slice A0 d0.values.length c0] 49 (0, 0)) := (hb.block (w.heap.size) (by first | omega | (simp; try omega))).trans RA.out
    have SM : w8.heap[w3.heap.size]? = some (.cells #[.int .i64 T.kind, .bool T.flag, .int .i64 T.num, .string T.text, .slice D4 T.keys.length e4, .slice D5 T.kids.length e5] 40 (0, 0)) := (hb.block (w3.heap.size) (by first | omega | (simp; try omega))).trans RM.out
    have SX : w8.heap[w4.heap.size]? = some (.cells #[.string d0.key, .int .i64 d0.op, .slice A4 d0.values.length c4] 55 (0, 0)) := (hb.block (w4.heap.size) (by first | omega | (simp; try omega))).trans RX.out
    have SG : w8.heap[w5.heap.size]? = some (.cells #[.int .i64 T.kind, .bool T.flag, .int .i64 T.num, .string T.text, .slice G4 T.keys.length i4, .slice G5 T.kids.length i5] 40 (0, 0)) := (hb.block (w5.heap.size) (by first | omega | (simp; try omega))).trans RG.out
    have Cw : Below w.heap.size w w8 := Bw.trans (hb.mono (by first | omega | (simp; try omega)))
    have CW : Below w3.heap.size w3 w8 := BW.trans (hb.mono (by first | omega | (simp; try omega)))
    have CX : Below w4.heap.size w4 w8 := BX.trans (hb.mono (by first | omega | (simp; try omega)))
    have CG : Below w5.heap.size w5 w8 := BG.trans (hb.mono (by first | omega | (simp; try omega)))
    clear RA RM RX RG Bw BW BX BG xA0 xA1 xA2 xM0 xM1 xM2 xM3 xM4 xM5 xX0 xX1 xX2 xG0 xG1 xG2 xG3 xG4 xG5 xAf xMf xXf xGf lA mA nA lM mM nM lX mX nX lG mG nG
    obtain ⟨xA0, xA1, xA2, xAf⟩ := row3 SA
    have lA := row_lt SA
    have mA := Nat.lt_succ_of_lt lA
    have nA := Nat.lt_succ_of_lt mA
    have RA := Lib.hid SA
    clear SA
    obtain ⟨xM0, xM1, xM2, xM3, xM4, xM5, xMf⟩ := row6 SM
    have lM := row_lt SM
    have mM := Nat.lt_succ_of_lt lM
    have nM := Nat.lt_succ_of_lt mM
    have RM := Lib.hid SM
    clear SM
    obtain ⟨xX0, xX1, xX2, xXf⟩ := row3 SX
    have lX := row_lt SX
    have mX := Nat.lt_succ_of_lt lX
    have nX := Nat.lt_succ_of_lt mX
    have RX := Lib.hid SX
    clear SX
    obtain ⟨xG0, xG1, xG2, xG3, xG4, xG5, xGf⟩ := row6 SG
    have lG := row_lt SG
    have mG := Nat.lt_succ_of_lt lG
    have nG := Nat.lt_succ_of_lt mG
    have RG := Lib.hid SG
    clear SG
    have Bw := Cw
    clear Cw
    have BW := CW
    clear CW
    have BX := CX
    clear CX
    have BG := CG
    clear CG
    clear hb
    go_wp2_with fail
    refine (c_laws_markNeed d0 _ _ _ _ _ (OX.carry (w' := w8) (fun b hb => BX.block b hb.2) (fun _ h => h)) (fun b hb => by omega) (by decide) (by omega)).mono ?_
    rintro e w9 ⟨rfl, hb⟩
    have z9 := hb.size
    have SA : w9.heap[w.heap.size]? = some (.cells #[.string d0.key, .int .i64 d0.op, .slice A0 d0.values.length c0] 49 (0, 0)) := (hb.block (w.heap.size) (by omega) (by omega)).trans RA.out
    have SM : w9.heap[w3.heap.size]? = some (.cells #[.int .i64 T.kind, .bool T.flag, .int .i64 T.num, .string T.text, .slice D4 T.keys.length e4, .slice D5 T.kids.length e5] 40 (0, 0)) := (hb.block (w3.heap.size) (by omega) (by omega)).trans RM.out
    have SX : w9.heap[w4.heap.size]? = some (.cells #[.string d0.key, .int .i64 d0.op, .slice A4 d0.values.length c4] 55 (0, 0)) := (hb.block (w4.heap.size) (by omega) (by omega)).trans RX.out
    have SG : w9.heap[w5.heap.size]? = some (.cells #[.int .i64 T.kind, .bool T.flag, .int .i64 T.num, .string T.text, .slice G4 T.keys.length i4, .slice G5 T.kids.length i5] 40 (0, 0)) := (hb.block (w5.heap.size) (by omega) (by omega)).trans RG.out
    have Cw : Below w.heap.size w w9 := Bw.trans (hb.below (by omega) (fun i hi => by omega))
    have CW : Below w3.heap.size w3 w9 := BW.trans (hb.below (by omega) (fun i hi => by omega))
    have TG9 := TG.carry (w' := w9) (fun b hq => (hb.block b (by omega) (by omega)).trans (BG.block b hq.2)) (fun _ h => h)
    have CG9 := TG9.toC (lo := w4.heap.size + 1) (hi := w9.heap.size) (fun b hq => ⟨hq.1, by omega⟩)
    have hk9 : ¬ (1 + (d0.values.length : Int)) < 0 := by omega
    clear TG CG CX CX7 OX
    clear RA RM RX RG Bw BW xA0 xA1 xA2 xM0 xM1 xM2 xM3 xM4 xM5 xX0 xX1 xX2 xG0 xG1 xG2 xG3 xG4 xG5 xAf xMf xXf xGf lA mA nA lM mM nM lX mX nX lG mG nG
    obtain ⟨xA0, xA1, xA2, xAf⟩ := row3 SA
    have lA := row_lt SA
    have mA := Nat.lt_succ_of_lt lA
    have nA := Nat.lt_succ_of_lt mA
    have RA := Lib.hid SA
    clear SA
    obtain ⟨xM0, xM1, xM2, xM3, xM4, xM5, xMf⟩ := row6 SM
    have lM := row_lt SM
    have mM := Nat.lt_succ_of_lt lM
    have nM := Nat.lt_succ_of_lt mM
    have RM := Lib.hid SM
    clear SM
    obtain ⟨xX0, xX1, xX2, xXf⟩ := row3 SX
    have lX := row_lt SX
    have mX := Nat.lt_succ_of_lt lX
    have nX := Nat.lt_succ_of_lt mX
    have RX := Lib.hid SX
    clear SX
    obtain ⟨xG0, xG1, xG2, xG3, xG4, xG5, xGf⟩ := row6 SG
    have lG := row_lt SG
    have mG := Nat.lt_succ_of_lt lG
    have nG := Nat.lt_succ_of_lt mG
    have RG := Lib.hid SG
    clear SG
    have Bw := Cw
    clear Cw
    have BW := CW
    clear CW
    clear hb
    go_wp2_with fail
    refine (all_eqTree 3 T _ _ _ _ _ CG9 (CW.now BW)).mono ?_
    rintro e w10 ⟨rfl, hb⟩
    have z10 := hb.size
    (try simp at z10)
    have SA : w10.heap[w.heap.size]? = some (.cells #[.string d0.key, .int .i64 d0.op, .slice A0 d0.values.length c0] 49 (0, 0)) := (hb.block (w.heap.size) (by first | omega | (simp; try omega))).trans RA.out
    have SM : w10.heap[w3.heap.size]? = some (.cells #[.int .i64 T.kind, .bool T.flag, .int .i64 T.num, .string T.text, .slice D4 T.keys.length e4, .slice D5 T.kids.length e5] 40 (0, 0)) := (hb.block (w3.heap.size) (by first | omega | (simp; try omega))).trans RM.out
    have SX : w10.heap[w4.heap.size]? = some (.cells #[.string d0.key, .int .i64 d0.op, .slice A4 d0.values.length c4] 55 (0, 0)) := (hb.block (w4.heap.size) (by first | omega | (simp; try omega))).trans RX.out
    have SG : w10.heap[w5.heap.size]? = some (.cells #[.int .i64 T.kind, .bool T.flag, .int .i64 T.num, .string T.text, .slice G4 T.keys.length i4, .slice G5 T.kids.length i5] 40 (0, 0)) := (hb.block (w5.heap.size) (by first | omega | (simp; try omega))).trans RG.out
    have Cw : Below w.heap.size w w10 := Bw.trans (hb.mono (by first | omega | (simp; try omega)))
    have CW : Below w3.heap.size w3 w10 := BW.trans (hb.mono (by first | omega | (simp; try omega)))
    have TG10 := TG9.carry (w' := w10) (fun b hq => hb.block b (by omega)) (fun _ h => h)
    clear TG9 CG9
    clear RA RM RX RG Bw BW xA0 xA1 xA2 xM0 xM1 xM2 xM3 xM4 xM5 xX0 xX1 xX2 xG0 xG1 xG2 xG3 xG4 xG5 xAf xMf xXf xGf lA mA nA lM mM nM lX mX nX lG mG nG
    obtain ⟨xA0, xA1, xA2, xAf⟩ := row3 SA
    have lA := row_lt SA
    have mA := Nat.lt_succ_of_lt lA
    have nA := Nat.lt_succ_of_lt mA
    have RA := Lib.hid SA
    clear SA
    obtain ⟨xM0, xM1, xM2, xM3, xM4, xM5, xMf⟩ := row6 SM
    have lM := row_lt SM
    have mM := Nat.lt_succ_of_lt lM
    have nM := Nat.lt_succ_of_lt mM
    have RM := Lib.hid SM
    clear SM
    obtain ⟨xX0, xX1, xX2, xXf⟩ := row3 SX
    have lX := row_lt SX
    have mX := Nat.lt_succ_of_lt lX
    have nX := Nat.lt_succ_of_lt mX
    have RX := Lib.hid SX
    clear SX
    obtain ⟨xG0, xG1, xG2, xG3, xG4, xG5, xGf⟩ := row6 SG
    have lG := row_lt SG
    have mG := Nat.lt_succ_of_lt lG
    have nG := Nat.lt_succ_of_lt mG
    have RG := Lib.hid SG
    clear SG
    have Bw := Cw
    clear Cw
    have BW := CW
    clear CW
    clear hb
    go_wp2_with fail
    refine (all_mark 3 T _ _ _ _ TG10 (fun b hb => by omega) (by decide) (by have := HC.out; omega)).mono ?_
    rintro e w11 ⟨g0d, rfl, TG11, MG, EG, hb⟩
    have z11 := hb.size
    have SA : w11.heap[w.heap.size]? = some (.cells #[.string d0.key, .int .i64 d0.op, .slice A0 d0.values.length c0] 49 (0, 0)) := (hb.block (w.heap.size) (by omega) (by omega)).trans RA.out
    have SM : w11.heap[w3.heap.size]? = some (.cells #[.int .i64 T.kind, .bool T.flag, .int .i64 T.num, .string T.text, .slice D4 T.keys.length e4, .slice D5 T.kids.length e5] 40 (0, 0)) := (hb.block (w3.heap.size) (by omega) (by omega)).trans RM.out
    have SX : w11.heap[w4.heap.size]? = some (.cells #[.string d0.key, .int .i64 d0.op, .slice A4 d0.values.length c4] 55 (0, 0)) := (hb.block (w4.heap.size) (by omega) (by omega)).trans RX.out
    have SG : w11.heap[w5.heap.size]? = some (.cells #[.int .i64 T.kind, .bool T.flag, .int .i64 T.num, .string T.text, .slice G4 T.keys.length i4, .slice G5 T.kids.length i5] 40 (0, 0)) := (hb.block (w5.heap.size) (by omega) (by omega)).trans RG.out
    have Cw : Below w.heap.size w w11 := Bw.trans (hb.below (by omega) (fun i hi => by omega))
    have CW : Below w3.heap.size w3 w11 := BW.trans (hb.below (by omega) (fun i hi => by omega))
    have CG11 := TG11.toC (lo := w4.heap.size + 1) (hi := w11.heap.size) (fun b hq => ⟨hq.1, by omega⟩)
    have HE := Lib.hid EG
    have HM := Lib.hid MG
    clear TG10 TG11 EG MG
    clear RA RM RX RG Bw BW xA0 xA1 xA2 xM0 xM1 xM2 xM3 xM4 xM5 xX0 xX1 xX2 xG0 xG1 xG2 xG3 xG4 xG5 xAf xMf xXf xGf lA mA nA lM mM nM lX mX nX lG mG nG
    obtain ⟨xA0, xA1, xA2, xAf⟩ := row3 SA
    have lA := row_lt SA
    have mA := Nat.lt_succ_of_lt lA
    have nA := Nat.lt_succ_of_lt mA
    have RA := Lib.hid SA
    clear SA
    obtain ⟨xM0, xM1, xM2, xM3, xM4, xM5, xMf⟩ := row6 SM
    have lM := row_lt SM
    have mM := Nat.lt_succ_of_lt lM
    have nM := Nat.lt_succ_of_lt mM
    have RM := Lib.hid SM
    clear SM
    obtain ⟨xX0, xX1, xX2, xXf⟩ := row3 SX
    have lX := row_lt SX
    have mX := Nat.lt_succ_of_lt lX
    have nX := Nat.lt_succ_of_lt mX
    have RX := Lib.hid SX
    clear SX
    obtain ⟨xG0, xG1, xG2, xG3, xG4, xG5, xGf⟩ := row6 SG
    have lG := row_lt SG
    have mG := Nat.lt_succ_of_lt lG
    have nG := Nat.lt_succ_of_lt mG
    have RG := Lib.hid SG
    clear SG
    have Bw := Cw
    clear Cw
    have BW := CW
    clear CW
    clear hb
    have BD : Below w11.heap.size w11 w11 := Below.refl _ _
    obtain ⟨cg, hcg⟩ : ∃ cg : Int, cg = (cntT 3 T : Int) := ⟨_, rfl⟩
    have Hcg := Lib.hid hcg
    have hcg0 : 0 ≤ cg := by omega
    have hcg1 : cg ≤ 4194304 := by have := HC.out; omega
    rw [← hcg]
    clear hcg
    go_wp2_with fail
    refine (c_laws_heldTree 3 g0d _ _ _ _ CG11 HM.out (by decide) (by have := HE.out; have := Hcg.out; omega)).mono ?_
    rintro e w12 ⟨rfl, hb⟩
    rw [HE.out, ← Hcg.out]
    have z12 := hb.size
    (try simp at z12)
    have SA : w12.heap[w.heap.size]? = some (.cells #[.string d0.key, .int .i64 d0.op, .slice A0 d0.values.length c0] 49 (0, 0)) := (hb.block (w.heap.size) (by first | omega | (simp; try omega))).trans RA.out
    have SM : w12.heap[w3.heap.size]? = some (.cells #[.int .i64 T.kind, .bool T.flag, .int .i64 T.num, .string T.text, .slice D4 T.keys.length e4, .slice D5 T.kids.length e5] 40 (0, 0)) := (hb.block (w3.heap.size) (by first | omega | (simp; try omega))).trans RM.out
    have SX : w12.heap[w4.heap.size]? = some (.cells #[.string d0.key, .int .i64 d0.op, .slice A4 d0.values.length c4] 55 (0, 0)) := (hb.block (w4.heap.size) (by first | omega | (simp; try omega))).trans RX.out
    have SG : w12.heap[w5.heap.size]? = some (.cells #[.int .i64 T.kind, .bool T.flag, .int .i64 T.num, .string T.text, .slice G4 T.keys.length i4, .slice G5 T.kids.length i5] 40 (0, 0)) := (hb.block (w5.heap.size) (by first | omega | (simp; try omega))).trans RG.out
    have Cw : Below w.heap.size w w12 := Bw.trans (hb.mono (by first | omega | (simp; try omega)))
    have CW : Below w3.heap.size w3 w12 := BW.trans (hb.mono (by first | omega | (simp; try omega)))
    have CD : Below w11.heap.size w11 w12 := BD.trans (hb.mono (by first | omega | (simp; try omega)))
    clear RA RM RX RG Bw BW BD xA0 xA1 xA2 xM0 xM1 xM2 xM3 xM4 xM5 xX0 xX1 xX2 xG0 xG1 xG2 xG3 xG4 xG5 xAf xMf xXf xGf lA mA nA lM mM nM lX mX nX lG mG nG
    obtain ⟨xA0, xA1, xA2, xAf⟩ := row3 SA
    have lA := row_lt SA
    have mA := Nat.lt_succ_of_lt lA
    have nA := Nat.lt_succ_of_lt mA
    have RA := Lib.hid SA
    clear SA
    obtain ⟨xM0, xM1, xM2, xM3, xM4, xM5, xMf⟩ := row6 SM
    have lM := row_lt SM
    have mM := Nat.lt_succ_of_lt lM
    have nM := Nat.lt_succ_of_lt mM
    have RM := Lib.hid SM
    clear SM
    obtain ⟨xX0, xX1, xX2, xXf⟩ := row3 SX
    have lX := row_lt SX
    have mX := Nat.lt_succ_of_lt lX
    have nX := Nat.lt_succ_of_lt mX
    have RX := Lib.hid SX
    clear SX
    obtain ⟨xG0, xG1, xG2, xG3, xG4, xG5, xGf⟩ := row6 SG
    have lG := row_lt SG
    have mG := Nat.lt_succ_of_lt lG
    have nG := Nat.lt_succ_of_lt mG
    have RG := Lib.hid SG
    clear SG
    have Bw := Cw
    clear Cw
    have BW := CW
    clear CW
    have BD := CD
    clear CD
    clear hb
    go_wp2_with fail
    refine (c_laws_toNeed d0 [.string d0.key, .int .i64 d0.op, .slice A0 d0.values.length c0] _ _ (C_Need.now HCN.out Bw) hn).mono ?_
    rintro e w13 ⟨cs13, rfl, hr13, hb⟩
    obtain ⟨A13, c13, rfl⟩ := C_Need.open hr13
    have z13 := hb.size
    (try simp at z13)
    have SA : w13.heap[w.heap.size]? = some (.cells #[.string d0.key, .int .i64 d0.op, .slice A0 d0.values.length c0] 49 (0, 0)) := (hb.block (w.heap.size) (by first | omega | (simp; try omega))).trans RA.out
    have SM : w13.heap[w3.heap.size]? = some (.cells #[.int .i64 T.kind, .bool T.flag, .int .i64 T.num, .string T.text, .slice D4 T.keys.length e4, .slice D5 T.kids.length e5] 40 (0, 0)) := (hb.block (w3.heap.size) (by first | omega | (simp; try omega))).trans RM.out
    have SX : w13.heap[w4.heap.size]? = some (.cells #[.string d0.key, .int .i64 d0.op, .slice A4 d0.values.length c4] 55 (0, 0)) := (hb.block (w4.heap.size) (by first | omega | (simp; try omega))).trans RX.out
    have SG : w13.heap[w5.heap.size]? = some (.cells #[.int .i64 T.kind, .bool T.flag, .int .i64 T.num, .string T.text, .slice G4 T.keys.length i4, .slice G5 T.kids.length i5] 40 (0, 0)) := (hb.block (w5.heap.size) (by first | omega | (simp; try omega))).trans RG.out
    have Cw : Below w.heap.size w w13 := Bw.trans (hb.mono (by first | omega | (simp; try omega)))
    have CW : Below w3.heap.size w3 w13 := BW.trans (hb.mono (by first | omega | (simp; try omega)))
    have CD : Below w11.heap.size w11 w13 := BD.trans (hb.mono (by first | omega | (simp; try omega)))
    clear RA RM RX RG Bw BW BD xA0 xA1 xA2 xM0 xM1 xM2 xM3 xM4 xM5 xX0 xX1 xX2 xG0 xG1 xG2 xG3 xG4 xG5 xAf xMf xXf xGf lA mA nA lM mM nM lX mX nX lG mG nG
    obtain ⟨xA0, xA1, xA2, xAf⟩ := row3 SA
    have lA := row_lt SA
    have mA := Nat.lt_succ_of_lt lA
    have nA := Nat.lt_succ_of_lt mA
    have RA := Lib.hid SA
    clear SA
    obtain ⟨xM0, xM1, xM2, xM3, xM4, xM5, xMf⟩ := row6 SM
    have lM := row_lt SM
    have mM := Nat.lt_succ_of_lt lM
    have nM := Nat.lt_succ_of_lt mM
    have RM := Lib.hid SM
    clear SM
    obtain ⟨xX0, xX1, xX2, xXf⟩ := row3 SX
    have lX := row_lt SX
    have mX := Nat.lt_succ_of_lt lX
    have nX := Nat.lt_succ_of_lt mX
    have RX := Lib.hid SX
    clear SX
    obtain ⟨xG0, xG1, xG2, xG3, xG4, xG5, xGf⟩ := row6 SG
    have lG := row_lt SG
    have mG := Nat.lt_succ_of_lt lG
    have nG := Nat.lt_succ_of_lt mG
    have RG := Lib.hid SG
    clear SG
    have Bw := Cw
    clear Cw
    have BW := CW
    clear CW
    have BD := CD
    clear CD
    clear hb
    go_wp2_with fail
    refine (c_impl_NeedTree 0 d0 _ _ _ hr13).mono ?_
    rintro e w14 ⟨cs14, rfl, T14, hb⟩
    rw [← HT.out] at T14
    obtain ⟨Q4, r4, Q5, r5, rfl, -⟩ := T14.flat
    have z14 := hb.size
    (try simp at z14)
    have SA : w14.heap[w.heap.size]? = some (.cells #[.string d0.key, .int .i64 d0.op, .slice A0 d0.values.length c0] 49 (0, 0)) := (hb.block (w.heap.size) (by first | omega | (simp; try omega))).trans RA.out
    have SM : w14.heap[w3.heap.size]? = some (.cells #[.int .i64 T.kind, .bool T.flag, .int .i64 T.num, .string T.text, .slice D4 T.keys.length e4, .slice D5 T.kids.length e5] 40 (0, 0)) := (hb.block (w3.heap.size) (by first | omega | (simp; try omega))).trans RM.out
    have SX : w14.heap[w4.heap.size]? = some (.cells #[.string d0.key, .int .i64 d0.op, .slice A4 d0.values.length c4] 55 (0, 0)) := (hb.block (w4.heap.size) (by first | omega | (simp; try omega))).trans RX.out
    have SG : w14.heap[w5.heap.size]? = some (.cells #[.int .i64 T.kind, .bool T.flag, .int .i64 T.num, .string T.text, .slice G4 T.keys.length i4, .slice G5 T.kids.length i5] 40 (0, 0)) := (hb.block (w5.heap.size) (by first | omega | (simp; try omega))).trans RG.out
    have Cw : Below w.heap.size w w14 := Bw.trans (hb.mono (by first | omega | (simp; try omega)))
    have CW : Below w3.heap.size w3 w14 := BW.trans (hb.mono (by first | omega | (simp; try omega)))
    have CD : Below w11.heap.size w11 w14 := BD.trans (hb.mono (by first | omega | (simp; try omega)))
    have CH := T14.toC (fun b hb => hb)
    clear T14
    clear RA RM RX RG Bw BW BD xA0 xA1 xA2 xM0 xM1 xM2 xM3 xM4 xM5 xX0 xX1 xX2 xG0 xG1 xG2 xG3 xG4 xG5 xAf xMf xXf xGf lA mA nA lM mM nM lX mX nX lG mG nG
    obtain ⟨xA0, xA1, xA2, xAf⟩ := row3 SA
    have lA := row_lt SA
    have mA := Nat.lt_succ_of_lt lA
    have nA := Nat.lt_succ_of_lt mA
    have RA := Lib.hid SA
    clear SA
    obtain ⟨xM0, xM1, xM2, xM3, xM4, xM5, xMf⟩ := row6 SM
    have lM := row_lt SM
    have mM := Nat.lt_succ_of_lt lM
    have nM := Nat.lt_succ_of_lt mM
    have RM := Lib.hid SM
    clear SM
    obtain ⟨xX0, xX1, xX2, xXf⟩ := row3 SX
    have lX := row_lt SX
    have mX := Nat.lt_succ_of_lt lX
    have nX := Nat.lt_succ_of_lt mX
    have RX := Lib.hid SX
    clear SX
    obtain ⟨xG0, xG1, xG2, xG3, xG4, xG5, xGf⟩ := row6 SG
    have lG := row_lt SG
    have mG := Nat.lt_succ_of_lt lG
    have nG := Nat.lt_succ_of_lt mG
    have RG := Lib.hid SG
    clear SG
    have Bw := Cw
    clear Cw
    have BW := CW
    clear CW
    have BD := CD
    clear CD
    clear hb
    go_wp2_with fail
    refine (all_eqTree 3 T _ _ _ _ _ (CH.now ((Below.refl _ _).alloc (Nat.le_refl _) _)) (CW.now (BW.alloc (by first | omega | (simp; try omega)) _))).mono ?_
    rintro e w15 ⟨rfl, hb⟩
    have z15 := hb.size
    (try simp at z15)
    have SA : w15.heap[w.heap.size]? = some (.cells #[.string d0.key, .int .i64 d0.op, .slice A0 d0.values.length c0] 49 (0, 0)) := (hb.block (w.heap.size) (by first | omega | (simp; try omega))).trans ((Below.heap_alloc _ _ _ (by first | omega | (simp; try omega))).trans RA.out)
    have SM : w15.heap[w3.heap.size]? = some (.cells #[.int .i64 T.kind, .bool T.flag, .int .i64 T.num, .string T.text, .slice D4 T.keys.length e4, .slice D5 T.kids.length e5] 40 (0, 0)) := (hb.block (w3.heap.size) (by first | omega | (simp; try omega))).trans ((Below.heap_alloc _ _ _ (by first | omega | (simp; try omega))).trans RM.out)
    have SX : w15.heap[w4.heap.size]? = some (.cells #[.string d0.key, .int .i64 d0.op, .slice A4 d0.values.length c4] 55 (0, 0)) := (hb.block (w4.heap.size) (by first | omega | (simp; try omega))).trans ((Below.heap_alloc _ _ _ (by first | omega | (simp; try omega))).trans RX.out)
    have SG : w15.heap[w5.heap.size]? = some (.cells #[.int .i64 T.kind, .bool T.flag, .int .i64 T.num, .string T.text, .slice G4 T.keys.length i4, .slice G5 T.kids.length i5] 40 (0, 0)) := (hb.block (w5.heap.size) (by first | omega | (simp; try omega))).trans ((Below.heap_alloc _ _ _ (by first | omega | (simp; try omega))).trans RG.out)
    have SP : w15.heap[w14.heap.size]? = some (.cells #[.int .i64 T.kind, .bool T.flag, .int .i64 T.num, .string T.text, .slice Q4 T.keys.length r4, .slice Q5 T.kids.length r5] 40 (0, 0)) := (hb.block (w14.heap.size) (by first | omega | (simp; try omega))).trans (heap_at (by simp))
    have Cw : Below w.heap.size w w15 := (Bw.alloc (by first | omega | (simp; try omega)) _).trans (hb.mono (by first | omega | (simp; try omega)))
    have CW : Below w3.heap.size w3 w15 := (BW.alloc (by first | omega | (simp; try omega)) _).trans (hb.mono (by first | omega | (simp; try omega)))
    have CD : Below w11.heap.size w11 w15 := (BD.alloc (by first | omega | (simp; try omega)) _).trans (hb.mono (by first | omega | (simp; try omega)))
    clear RA RM RX RG Bw BW BD xA0 xA1 xA2 xM0 xM1 xM2 xM3 xM4 xM5 xX0 xX1 xX2 xG0 xG1 xG2 xG3 xG4 xG5 xAf xMf xXf xGf lA mA nA lM mM nM lX mX nX lG mG nG
    obtain ⟨xA0, xA1, xA2, xAf⟩ := row3 SA
    have lA := row_lt SA
    have mA := Nat.lt_succ_of_lt lA
    have nA := Nat.lt_succ_of_lt mA
    have RA := Lib.hid SA
    clear SA
    obtain ⟨xM0, xM1, xM2, xM3, xM4, xM5, xMf⟩ := row6 SM
    have lM := row_lt SM
    have mM := Nat.lt_succ_of_lt lM
    have nM := Nat.lt_succ_of_lt mM
    have RM := Lib.hid SM
    clear SM
    obtain ⟨xX0, xX1, xX2, xXf⟩ := row3 SX
    have lX := row_lt SX
    have mX := Nat.lt_succ_of_lt lX
    have nX := Nat.lt_succ_of_lt mX
    have RX := Lib.hid SX
    clear SX
    obtain ⟨xG0, xG1, xG2, xG3, xG4, xG5, xGf⟩ := row6 SG
    have lG := row_lt SG
    have mG := Nat.lt_succ_of_lt lG
    have nG := Nat.lt_succ_of_lt mG
    have RG := Lib.hid SG
    clear SG
    obtain ⟨xP0, xP1, xP2, xP3, xP4, xP5, xPf⟩ := row6 SP
    have lP := row_lt SP
    have mP := Nat.lt_succ_of_lt lP
    have nP := Nat.lt_succ_of_lt mP
    have RP := Lib.hid SP
    clear SP
    have Bw := Cw
    clear Cw
    have BW := CW
    clear CW
    have BD := CD
    clear CD
    clear hb
    go_wp2_with fail
    refine (c_laws_heldTree 3 g0d _ _ _ _ (CG11.now BD) HM.out (by decide) (by have := HE.out; have := Hcg.out; omega)).mono ?_
    rintro e w16 ⟨rfl, hb⟩
    rw [HE.out, ← Hcg.out]
    have z16 := hb.size
    (try simp at z16)
    have SA : w16.heap[w.heap.size]? = some (.cells #[.string d0.key, .int .i64 d0.op, .slice A0 d0.values.length c0] 49 (0, 0)) := (hb.block (w.heap.size) (by first | omega | (simp; try omega))).trans RA.out
    have SM : w16.heap[w3.heap.size]? = some (.cells #[.int .i64 T.kind, .bool T.flag, .int .i64 T.num, .string T.text, .slice D4 T.keys.length e4, .slice D5 T.kids.length e5] 40 (0, 0)) := (hb.block (w3.heap.size) (by first | omega | (simp; try omega))).trans RM.out
    have SX : w16.heap[w4.heap.size]? = some (.cells #[.string d0.key, .int .i64 d0.op, .slice A4 d0.values.length c4] 55 (0, 0)) := (hb.block (w4.heap.size) (by first | omega | (simp; try omega))).trans RX.out
    have SG : w16.heap[w5.heap.size]? = some (.cells #[.int .i64 T.kind, .bool T.flag, .int .i64 T.num, .string T.text, .slice G4 T.keys.length i4, .slice G5 T.kids.length i5] 40 (0, 0)) := (hb.block (w5.heap.size) (by first | omega | (simp; try omega))).trans RG.out
    have SP : w16.heap[w14.heap.size]? = some (.cells #[.int .i64 T.kind, .bool T.flag, .int .i64 T.num, .string T.text, .slice Q4 T.keys.length r4, .slice Q5 T.kids.length r5] 40 (0, 0)) := (hb.block (w14.heap.size) (by first | omega | (simp; try omega))).trans RP.out
    have Cw : Below w.heap.size w w16 := Bw.trans (hb.mono (by first | omega | (simp; try omega)))
    have CW : Below w3.heap.size w3 w16 := BW.trans (hb.mono (by first | omega | (simp; try omega)))
    have CD : Below w11.heap.size w11 w16 := BD.trans (hb.mono (by first | omega | (simp; try omega)))
    clear RA RM RX RG RP Bw BW BD xA0 xA1 xA2 xM0 xM1 xM2 xM3 xM4 xM5 xX0 xX1 xX2 xG0 xG1 xG2 xG3 xG4 xG5 xP0 xP1 xP2 xP3 xP4 xP5 xAf xMf xXf xGf xPf lA mA nA lM mM nM lX mX nX lG mG nG lP mP nP
    obtain ⟨xA0, xA1, xA2, xAf⟩ := row3 SA
    have lA := row_lt SA
    have mA := Nat.lt_succ_of_lt lA
    have nA := Nat.lt_succ_of_lt mA
    have RA := Lib.hid SA
    clear SA
    obtain ⟨xM0, xM1, xM2, xM3, xM4, xM5, xMf⟩ := row6 SM
    have lM := row_lt SM
    have mM := Nat.lt_succ_of_lt lM
    have nM := Nat.lt_succ_of_lt mM
    have RM := Lib.hid SM
    clear SM
    obtain ⟨xX0, xX1, xX2, xXf⟩ := row3 SX
    have lX := row_lt SX
    have mX := Nat.lt_succ_of_lt lX
    have nX := Nat.lt_succ_of_lt mX
    have RX := Lib.hid SX
    clear SX
    obtain ⟨xG0, xG1, xG2, xG3, xG4, xG5, xGf⟩ := row6 SG
    have lG := row_lt SG
    have mG := Nat.lt_succ_of_lt lG
    have nG := Nat.lt_succ_of_lt mG
    have RG := Lib.hid SG
    clear SG
    obtain ⟨xP0, xP1, xP2, xP3, xP4, xP5, xPf⟩ := row6 SP
    have lP := row_lt SP
    have mP := Nat.lt_succ_of_lt lP
    have nP := Nat.lt_succ_of_lt mP
    have RP := Lib.hid SP
    clear SP
    have Bw := Cw
    clear Cw
    have BW := CW
    clear CW
    have BD := CD
    clear CD
    clear hb
    go_wp2_with fail
    go_ret
    exact ⟨rfl, Bw⟩
  · have hz := szI_neg hq
    have hz2 : szI 1048576 (nNeed d0) < 0 := by omega
    clear hz
    go_enter Try.func14, Try.ntmps14
    go_wp2_with (go_at_call 31; refine (c_laws_szNeed d0 [.string d0.key, .int .i64 d0.op, .slice A0 d0.values.length c0] _ _ _ (C_Need.now hC (by repeat (first | (with_reducible exact Below.refl _ _) | (with_reducible refine ext_alloc ?_) | ((with_reducible refine ext_setCell ?_ ?_); focus (simp; (try omega))) | (with_reducible refine below_drewN ?_ _) | (with_reducible refine Below.drew ?_) | (with_reducible (apply ext_step; assumption))))) (by omega) (by omega)).mono ?_; rintro e w1 ⟨rfl, hb⟩)
    go_ret
    exact ⟨rfl, (by repeat (first | (with_reducible exact Below.refl _ _) | (with_reducible refine ext_alloc ?_) | ((with_reducible refine ext_setCell ?_ ?_); focus (simp; (try omega))) | (with_reducible refine below_drewN ?_ _) | (with_reducible refine Below.drew ?_) | (with_reducible (apply ext_step; assumption))))⟩
end Go.Proofs.Ytipogknfbofbkaa
