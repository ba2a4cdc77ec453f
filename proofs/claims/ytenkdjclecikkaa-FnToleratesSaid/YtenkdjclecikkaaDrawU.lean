/- The laws' own draws DrawUntolerated and DrawTolerates. No conditions. Written by wip/tools/genfntol.py. -/
import Derived.Test.YtenkdjclecikkaaDrawL
import Derived.RegionTactic
import Derived.ChangeAlike
namespace Go.Proofs.Ytenkdjclecikkaa
open Go.RowKit

set_option maxHeartbeats 1000000 in
theorem c_spec_DrawUntolerated (code : List UInt8) (v : Value) (lo : Nat) (w : World) (hs : SlOf C_Byte 1 lo w.heap.size w code v) (hn : code.length ≤ 1048576) :
    Calls Try.prog 6 #[v] w fun e w' => ∃ (l : List Tolerance) (A : Option Addr) (c : Nat) (xs : List Taint) (B : Option Addr) (b : Nat) (x : Int), e = .returned (.tuple #[.slice A l.length c, .slice B xs.length b, .int .i64 x]) ∧ Sl_Tolerance w.heap.size w'.heap.size w' l (.slice A l.length c) ∧ Sl_Taint w.heap.size w'.heap.size w' xs (.slice B xs.length b) ∧ l.length ≤ 3 ∧ xs.length ≤ 41 ∧ Below w.heap.size w w' := by
  go_enter Try.func6, Try.ntmps6
  go_wp2_with fail
  refine (c_l01New code v lo _ hs hn).mono ?_
  rintro e w1 ⟨p, rfl, hp, hC, hb⟩
  have hsz := hb.size
  go_wp2_with fail
  refine (c_l16Tolerances code p _ hC).mono ?_
  rintro e w2 ⟨l, A, c, rfl, hR, hA, hl, hd⟩
  have HR := Lib.hid hR
  have HA := Lib.hid hA
  have HD := Lib.hid hd
  have hpl := hC.lt
  have hsz2 := hd.size
  clear hR hA hd
  go_wp2_with fail
  refine (c_l16AnyTaints code p _ HD.out.cur).mono ?_
  rintro e w3 ⟨xs, B, b, rfl, hR, hA, hl2, hd⟩
  have HR2 := Lib.hid hR
  have HA2 := Lib.hid hA
  have HD2 := Lib.hid hd
  clear hR hA hd
  go_wp2_with fail
  refine (c_l01Below code p 4 _ HD2.out.cur (by decide)).mono ?_
  rintro e w4 ⟨x, rfl, -, -, -, hd⟩
  have S1 := Lib.hid (RowE.sl encTol_len (((HR.out.dr HD2.out hpl).dr hd hpl).less hsz) HA.out)
  have S2 := Lib.hid (RowE.sl encT_len (((HR2.out.dr hd (by omega)).less hsz2).less hsz) HA2.out)
  have B4 := hb.trans ((HD.out.trans (HD2.out.trans hd)).below hsz hp)
  clear hd
  go_wp2_with fail
  go_ret3
  exact ⟨l, A, c, xs, B, b, x, rfl, S1.out, S2.out, hl, hl2, B4⟩
set_option maxHeartbeats 4000000 in
set_option maxRecDepth 10000 in
theorem c_spec_DrawTolerates (code : List UInt8) (v : Value) (lo : Nat) (w : World) (hs : SlOf C_Byte 1 lo w.heap.size w code v) (hn : code.length ≤ 1048576) :
    Calls Try.prog 8 #[v] w fun e w' => ∃ (t : Tolerance) (x : Taint), e = .returned (.tuple #[.agg #[.string t.key, .bool t.equal, .string t.value, .int .i64 t.effect], .agg #[.string x.key, .string x.value, .int .i64 x.effect]]) ∧ C_Tolerance t (encTol t) ∧ C_Taint x (encT x) ∧ Below w.heap.size w w' := by
  go_enter Try.func8, Try.ntmps8
  go_wp2_with fail
  refine (c_l01New code v lo ((w.alloc (.cells #[.string ⟨#[]⟩, .bool false, .string ⟨#[]⟩, .int .i64 0] 30)).alloc (.cells #[.string ⟨#[]⟩, .string ⟨#[]⟩, .int .i64 0] 32)) (SlOf.now (SlOf.now hs (ext_alloc (Below.refl _ _))) (ext_alloc (Below.refl _ _))) hn).mono ?_
  rintro e w1 ⟨p, rfl, hp, hC, hb⟩
  have hsz := hb.size
  simp at hsz hp
  have Q0 := Lib.hid ((hb.block w.heap.size (by first | (simp; done) | (simp; omega))).trans ((Below.heap_alloc _ _ _ (by simp)).trans (heap_alloc_new w _)))
  have Q1 := Lib.hid ((hb.block (w.heap.size + 1) (by first | (simp; done) | (simp; omega))).trans (heap_at (by simp)))
  have hpl := hC.lt
  have B1 : Below w.heap.size w w1 := ((((Below.refl _ _).alloc (Nat.le_refl _) _).alloc (by simp) _).trans (hb.mono (by first | (simp; done) | (simp; omega))))
  clear hb
  go_wp2_with fail
  refine (c_l16AnyTolerance code p _ hC).mono ?_
  rintro e w2 ⟨t, rfl, hCt, hd⟩
  have HD := Lib.hid hd
  have Q0a := Lib.hid ((hd.block (g := w.heap.size) (by omega) (by omega)).trans Q0.out)
  have Q1a := Lib.hid ((hd.block (g := w.heap.size + 1) (by omega) (by omega)).trans Q1.out)
  have hsz2 := hd.size
  have HCt := Lib.hid hCt
  clear hd hCt
  go_wp2_with fail
  refine (c_l16AnyTaint code p (w2.alloc (.cells #[.string t.key, .bool t.equal, .string t.value, .int .i64 t.effect] 30)) (HD.out.cur.below (ext_alloc (Below.refl _ _)))).mono ?_
  rintro e w3 ⟨x, rfl, hCx, hd⟩
  have HD3 := Lib.hid (HD.out.trans hd.cut)
  have hsz3 := hd.size
  simp at hsz3
  have Q0b := Lib.hid ((hd.block (g := w.heap.size) (by simp; omega) (by omega)).trans ((Below.heap_alloc _ _ _ (by omega)).trans Q0a.out))
  have Q1b := Lib.hid ((hd.block (g := w.heap.size + 1) (by simp; omega) (by omega)).trans ((Below.heap_alloc _ _ _ (by omega)).trans Q1a.out))
  have Q2b := Lib.hid ((hd.block (g := w2.heap.size) (by simp) (by omega)).trans (heap_alloc_new _ _))
  have HCx := Lib.hid hCx
  clear hd hCx
  go_wp2_with fail
  refine (c_l01Once code p 2 (w3.alloc (.cells #[.string x.key, .string x.value, .int .i64 x.effect] 32)) (HD3.out.cur.below (ext_alloc (Below.refl _ _))) (by decide)).mono ?_
  rintro e w4 ⟨b, rfl, hd⟩
  have HD4 := Lib.hid (HD3.out.trans hd.cut)
  have hsz4 := hd.size
  simp at hsz4
  have Q0c := Lib.hid ((hd.block (g := w.heap.size) (by simp; omega) (by omega)).trans ((Below.heap_alloc _ _ _ (by omega)).trans Q0b.out))
  have Q1c := Lib.hid ((hd.block (g := w.heap.size + 1) (by simp; omega) (by omega)).trans ((Below.heap_alloc _ _ _ (by omega)).trans Q1b.out))
  have Q2c := Lib.hid ((hd.block (g := w2.heap.size) (by simp; omega) (by omega)).trans ((Below.heap_alloc _ _ _ (by omega)).trans Q2b.out))
  have Q3c := Lib.hid ((hd.block (g := w3.heap.size) (by simp) (by omega)).trans (heap_alloc_new _ _))
  clear hd
  have n1 : ¬ w.heap.size = w2.heap.size := by omega
  have n2 : ¬ w.heap.size = w3.heap.size := by omega
  have n3 : ¬ w.heap.size + 1 = w2.heap.size := by omega
  have n4 : ¬ w.heap.size + 1 = w3.heap.size := by omega
  have n5 : ¬ w2.heap.size = w3.heap.size := by omega
  have n6 : ¬ w2.heap.size = w.heap.size := by omega
  have n7 : ¬ w3.heap.size = w.heap.size := by omega
  have n8 : ¬ w2.heap.size = w.heap.size + 1 := by omega
  have n9 : ¬ w3.heap.size = w.heap.size + 1 := by omega
  have n0 : ¬ w3.heap.size = w2.heap.size := by omega
  cases b
  · skip
    go_wp2_with fail
    refine (c_l01Once code p 2 w4 HD4.out.cur (by decide)).mono ?_
    rintro e w5 ⟨b, rfl, hd⟩
    have hsz5 := hd.size
    have Q0d := Lib.hid ((hd.block (g := w.heap.size) (by omega) (by omega)).trans Q0c.out)
    have Q1d := Lib.hid ((hd.block (g := w.heap.size + 1) (by omega) (by omega)).trans Q1c.out)
    have Q2d := Lib.hid ((hd.block (g := w2.heap.size) (by omega) (by omega)).trans Q2c.out)
    have Q3d := Lib.hid ((hd.block (g := w3.heap.size) (by omega) (by omega)).trans Q3c.out)
    have B5 : Below w.heap.size w w5 := B1.trans ((HD4.out.trans hd).below (by omega) (by omega))
    clear hd
    cases b
    · skip
      obtain ⟨a0, a1, a2, a3, af⟩ := row4 Q0d.out
      obtain ⟨b0, b1, b2, bf⟩ := row3 Q1d.out
      obtain ⟨c0, c1, c2, c3, cf⟩ := row4 Q2d.out
      obtain ⟨d0, d1, d2, df⟩ := row3 Q3d.out
      have l0 := row_lt Q0d.out
      have l1 := row_lt Q1d.out
      have l2 := row_lt Q2d.out
      have l3 := row_lt Q3d.out
      go_wp2_with fail
      go_region
      all_goals
        go_wp2_with fail
        exact bodyPost_ret (v := .tuple #[.agg #[.string t.key, .bool t.equal, .string t.value, .int .i64 t.effect], .agg #[.string x.key, .string x.value, .int .i64 x.effect]]) (by simp only [results, Try.results8]; go_simp) rfl ⟨t, (⟨x.key, x.value, x.effect⟩ : Taint), rfl, HCt.out, (by obtain ⟨-, g1, g2, g3⟩ := HCx.out; obtain ⟨-, f1, f2, f3⟩ := HCt.out; exact (show C_Taint (⟨x.key, x.value, x.effect⟩ : Taint) (encT (⟨x.key, x.value, x.effect⟩ : Taint)) from ⟨rfl, g1, g2, g3⟩)), (by repeat (first | (with_reducible exact B5) | ((with_reducible refine ext_setCell ?_ ?_); focus (simp; (try omega))) | (with_reducible refine below_drewN ?_ _) | (with_reducible refine Below.drew ?_)))⟩
    · skip
      obtain ⟨a0, a1, a2, a3, af⟩ := row4 Q0d.out
      obtain ⟨b0, b1, b2, bf⟩ := row3 Q1d.out
      obtain ⟨c0, c1, c2, c3, cf⟩ := row4 Q2d.out
      obtain ⟨d0, d1, d2, df⟩ := row3 Q3d.out
      have l0 := row_lt Q0d.out
      have l1 := row_lt Q1d.out
      have l2 := row_lt Q2d.out
      have l3 := row_lt Q3d.out
      go_wp2_with fail
      go_region
      all_goals
        go_wp2_with fail
        exact bodyPost_ret (v := .tuple #[.agg #[.string t.key, .bool t.equal, .string t.value, .int .i64 t.effect], .agg #[.string x.key, .string t.value, .int .i64 x.effect]]) (by simp only [results, Try.results8]; go_simp) rfl ⟨t, (⟨x.key, t.value, x.effect⟩ : Taint), rfl, HCt.out, (by obtain ⟨-, g1, g2, g3⟩ := HCx.out; obtain ⟨-, f1, f2, f3⟩ := HCt.out; exact (show C_Taint (⟨x.key, t.value, x.effect⟩ : Taint) (encT (⟨x.key, t.value, x.effect⟩ : Taint)) from ⟨rfl, g1, f2, g3⟩)), (by repeat (first | (with_reducible exact B5) | ((with_reducible refine ext_setCell ?_ ?_); focus (simp; (try omega))) | (with_reducible refine below_drewN ?_ _) | (with_reducible refine Below.drew ?_)))⟩
  · skip
    obtain ⟨u0, u1, u2, u3, uf⟩ := row4 Q2c.out
    obtain ⟨v0, v1, v2, vf⟩ := row3 Q3c.out
    have lc2 := row_lt Q2c.out
    have lc3 := row_lt Q3c.out
    go_wp2_with fail
    refine (c_l01Once code p 2 (w4.setCell ⟨w3.heap.size, 0, none⟩ (.string t.key)) (HD4.out.set hpl (by omega) _).cur (by decide)).mono ?_
    rintro e w5 ⟨b, rfl, hd⟩
    have hsz5 := hd.size
    simp [World.setCell] at hsz5
    have Q0d := Lib.hid ((hd.block (g := w.heap.size) (by simp [World.setCell]; omega) (by omega)).trans ((Below.heap_setCell w4 ⟨w3.heap.size, 0, none⟩ _ _ (by simp; omega)).trans Q0c.out))
    have Q1d := Lib.hid ((hd.block (g := w.heap.size + 1) (by simp [World.setCell]; omega) (by omega)).trans ((Below.heap_setCell w4 ⟨w3.heap.size, 0, none⟩ _ _ (by simp; omega)).trans Q1c.out))
    have Q2d := Lib.hid ((hd.block (g := w2.heap.size) (by simp [World.setCell]; omega) (by omega)).trans ((Below.heap_setCell w4 ⟨w3.heap.size, 0, none⟩ _ _ (by simp; omega)).trans Q2c.out))
    have Q3d := Lib.hid ((hd.block (g := w3.heap.size) (by simp [World.setCell]; omega) (by omega)).trans (heap_setCell_same w4 _ 0 _ _ (.string t.key) Q3c.out))
    have B5 : Below w.heap.size w w5 := B1.trans (((HD4.out.set hpl (by omega) _).trans hd).below (by omega) (by omega))
    clear hd u0 u1 u2 u3 uf v0 v1 v2 vf
    cases b
    · skip
      obtain ⟨a0, a1, a2, a3, af⟩ := row4 Q0d.out
      obtain ⟨b0, b1, b2, bf⟩ := row3 Q1d.out
      obtain ⟨c0, c1, c2, c3, cf⟩ := row4 Q2d.out
      obtain ⟨d0, d1, d2, df⟩ := row3 Q3d.out
      have l0 := row_lt Q0d.out
      have l1 := row_lt Q1d.out
      have l2 := row_lt Q2d.out
      have l3 := row_lt Q3d.out
      go_wp2_with fail
      go_region
      all_goals
        go_wp2_with fail
        exact bodyPost_ret (v := .tuple #[.agg #[.string t.key, .bool t.equal, .string t.value, .int .i64 t.effect], .agg #[.string t.key, .string x.value, .int .i64 x.effect]]) (by simp only [results, Try.results8]; go_simp) rfl ⟨t, (⟨t.key, x.value, x.effect⟩ : Taint), rfl, HCt.out, (by obtain ⟨-, g1, g2, g3⟩ := HCx.out; obtain ⟨-, f1, f2, f3⟩ := HCt.out; exact (show C_Taint (⟨t.key, x.value, x.effect⟩ : Taint) (encT (⟨t.key, x.value, x.effect⟩ : Taint)) from ⟨rfl, f1, g2, g3⟩)), (by repeat (first | (with_reducible exact B5) | ((with_reducible refine ext_setCell ?_ ?_); focus (simp; (try omega))) | (with_reducible refine below_drewN ?_ _) | (with_reducible refine Below.drew ?_)))⟩
    · skip
      obtain ⟨a0, a1, a2, a3, af⟩ := row4 Q0d.out
      obtain ⟨b0, b1, b2, bf⟩ := row3 Q1d.out
      obtain ⟨c0, c1, c2, c3, cf⟩ := row4 Q2d.out
      obtain ⟨d0, d1, d2, df⟩ := row3 Q3d.out
      have l0 := row_lt Q0d.out
      have l1 := row_lt Q1d.out
      have l2 := row_lt Q2d.out
      have l3 := row_lt Q3d.out
      go_wp2_with fail
      go_region
      all_goals
        go_wp2_with fail
        exact bodyPost_ret (v := .tuple #[.agg #[.string t.key, .bool t.equal, .string t.value, .int .i64 t.effect], .agg #[.string t.key, .string t.value, .int .i64 x.effect]]) (by simp only [results, Try.results8]; go_simp) rfl ⟨t, (⟨t.key, t.value, x.effect⟩ : Taint), rfl, HCt.out, (by obtain ⟨-, g1, g2, g3⟩ := HCx.out; obtain ⟨-, f1, f2, f3⟩ := HCt.out; exact (show C_Taint (⟨t.key, t.value, x.effect⟩ : Taint) (encT (⟨t.key, t.value, x.effect⟩ : Taint)) from ⟨rfl, f1, f2, g3⟩)), (by repeat (first | (with_reducible exact B5) | ((with_reducible refine ext_setCell ?_ ?_); focus (simp; (try omega))) | (with_reducible refine below_drewN ?_ _) | (with_reducible refine Below.drew ?_)))⟩
end Go.Proofs.Ytenkdjclecikkaa
