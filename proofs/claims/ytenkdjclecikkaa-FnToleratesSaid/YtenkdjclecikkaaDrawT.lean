/- The laws' own draws of one taint and of one tolerance: what they draw is well made; the cursor's block alone is changed. No conditions. Written by wip/tools/gendraw.py. -/
import Derived.Test.YtenkdjclecikkaaDraw
import Derived.Test.YtenkdjclecikkaaCloneT
namespace Go.Proofs.Ytenkdjclecikkaa
open Go.RowKit

set_option maxHeartbeats 1000000 in
theorem c_l16Taint (code : List UInt8) (p : Nat) (w : World) (h : CurAt code p w) :
    Calls Try.prog 49 #[.pointer (some ⟨p, 0, none⟩)] w fun e w' => ∃ d : Taint, e = .returned (.agg #[.string d.key, .string d.value, .int .i64 d.effect]) ∧ C_Taint d (encT d) ∧ Dr code p w w' := by
  have hpl := h.lt
  go_enter Try.func49, Try.ntmps49
  go_wp2_with fail
  refine (c_l14Key code p (w.alloc (.cells #[.string ⟨#[]⟩, .string ⟨#[]⟩, .int .i64 0] 32)) (h.below (ext_alloc (Below.refl _ _)))).mono ?_
  rintro e w1 ⟨s1, rfl, hs1, hd⟩
  have HD := Lib.hid hd
  clear hd
  go_wp2_with fail
  refine (c_l14Value code p _ HD.out.cur).mono ?_
  rintro e w2 ⟨s2, rfl, hs2, hd⟩
  have HD2 := Lib.hid (HD.out.trans hd)
  clear hd
  go_wp2_with fail
  refine (c_l01Below code p 2 _ HD2.out.cur (by decide)).mono ?_
  rintro e w3 ⟨x, rfl, hx0, hx1, -, hd⟩
  have HD3 := Lib.hid (HD2.out.trans hd)
  have hx2 := hx1 (by decide)
  clear hd hx1
  have hq : w.heap.size < w3.heap.size := by have := HD3.out.size; simp at this; omega
  obtain ⟨b0, b1, b2, bf⟩ := row3 ((HD3.out.block (g := w.heap.size) (by simp) (by omega)).trans (heap_alloc_new _ _))
  have HW := Lib.hid (Dr.cut HD3.out)
  go_wp2_with fail
  exact bodyPost_ret (v := .agg #[.string s1, .string s2, .int .i64 (1 + x)]) (by simp only [results, Try.results49]; go_simp) rfl ⟨⟨s1, s2, 1 + x⟩, rfl, ⟨rfl, hs1, hs2, (show I64 (1 + x) from ⟨by omega, by omega⟩)⟩, ((HW.out.set hpl (Nat.le_refl _) _).set hpl (Nat.le_refl _) _).set hpl (Nat.le_refl _) _⟩
set_option maxHeartbeats 2000000 in
theorem c_l16Tolerance (code : List UInt8) (p : Nat) (w : World) (h : CurAt code p w) :
    Calls Try.prog 45 #[.pointer (some ⟨p, 0, none⟩)] w fun e w' => ∃ d : Tolerance, e = .returned (.agg #[.string d.key, .bool d.equal, .string d.value, .int .i64 d.effect]) ∧ C_Tolerance d (encTol d) ∧ Dr code p w w' := by
  have hpl := h.lt
  have hz0 : (⟨#[]⟩ : ByteArray).size ≤ 9223372036854775807 := by decide
  go_enter Try.func45, Try.ntmps45
  go_wp2_with fail
  refine (c_l14Key code p (w.alloc (.cells #[.string ⟨#[]⟩, .bool false, .string ⟨#[]⟩, .int .i64 0] 30)) (h.below (ext_alloc (Below.refl _ _)))).mono ?_
  rintro e w1 ⟨s1, rfl, hs1, hd⟩
  have HD := Lib.hid hd
  clear hd
  go_wp2_with fail
  refine (c_l01Below code p 3 _ HD.out.cur (by decide)).mono ?_
  rintro e w2 ⟨x, rfl, hx0, hx1, -, hd⟩
  have HD2 := Lib.hid (HD.out.trans hd)
  have hx2 := hx1 (by decide)
  clear hd hx1
  have hq : w.heap.size < w2.heap.size := by have := HD2.out.size; simp at this; omega
  have r0 := (HD2.out.block (g := w.heap.size) (by simp) (by omega)).trans (heap_alloc_new _ _)
  have R0 := Lib.hid r0
  clear r0
  have HW := Lib.hid (Dr.cut HD2.out)
  go_wp2_with fail
  refine (c_l01Once code p 2 (w2.alloc (.cells #[.string s1, .bool false, .string ⟨#[]⟩, .int .i64 x] 30)) (HW.out.cur.below (ext_alloc (Below.refl _ _))) (by decide)).mono ?_
  rintro e w3 ⟨b, rfl, hd⟩
  have HD3 := Lib.hid (HW.out.trans hd.cut)
  have hz3 : w2.heap.size < w3.heap.size := by have := hd.size; simp at this; omega
  have S0 := Lib.hid ((hd.block (g := w.heap.size) (by simp; omega) (by omega)).trans ((Below.heap_alloc _ _ _ hq).trans R0.out))
  have S1 := Lib.hid ((hd.block (g := w2.heap.size) (by simp) (by omega)).trans (heap_alloc_new _ _))
  clear hd
  have hpw : w.heap.size ≤ w2.heap.size := by omega
  cases b
  · go_wp2_with fail
    refine (c_l01Once code p 3 _ HD3.out.cur (by decide)).mono ?_
    rintro e w4 ⟨b, rfl, hd⟩
    have HD4 := Lib.hid (HD3.out.trans hd)
    have hz4 := hd.size
    have T0 := (hd.block (g := w.heap.size) (by omega) (by omega)).trans S0.out
    have T1 := (hd.block (g := w2.heap.size) (by omega) (by omega)).trans S1.out
    clear hd
    obtain ⟨a0, a1, a2, a3, af⟩ := row4 T0
    obtain ⟨b0, b1, b2, b3, bf⟩ := row4 T1
    have hl0 := row_lt T0
    have hl1 := row_lt T1
    clear T0 T1
    have hne : ¬ w.heap.size = w2.heap.size := by omega
    have hne2 : ¬ w2.heap.size = w.heap.size := by omega
    cases b
    · go_wp2_with fail
      exact bodyPost_ret (v := .agg #[.string s1, .bool false, .string ⟨#[]⟩, .int .i64 x]) (by simp only [results, Try.results45]; go_simp) rfl ⟨⟨s1, false, ⟨#[]⟩, x⟩, rfl, ⟨rfl, hs1, hz0, (show I64 x from ⟨by omega, by omega⟩)⟩, (((HD4.out.set hpl (Nat.le_refl _) _).set hpl (Nat.le_refl _) _).set hpl (Nat.le_refl _) _).set hpl (Nat.le_refl _) _⟩
    · go_wp2_with fail
      exact bodyPost_ret (v := .agg #[.string ⟨#[]⟩, .bool false, .string ⟨#[]⟩, .int .i64 x]) (by simp only [results, Try.results45]; go_simp) rfl ⟨⟨⟨#[]⟩, false, ⟨#[]⟩, x⟩, rfl, ⟨rfl, hz0, hz0, (show I64 x from ⟨by omega, by omega⟩)⟩, ((((HD4.out.set hpl hpw _).set hpl (Nat.le_refl _) _).set hpl (Nat.le_refl _) _).set hpl (Nat.le_refl _) _).set hpl (Nat.le_refl _) _⟩
  · obtain ⟨c0, c1, c2, c3, cf⟩ := row4 S1.out
    have hlc := row_lt S1.out
    go_wp2_with fail
    refine (c_l14Value code p (w3.setCell ⟨w2.heap.size, 1, none⟩ (.bool true)) (HD3.out.set hpl hpw _).cur).mono ?_
    rintro e w4 ⟨s2, rfl, hs2, hd⟩
    have HD4 := Lib.hid ((HD3.out.set hpl hpw _).trans hd)
    have hz4 := hd.size
    simp [World.setCell] at hz4
    have T0 := (hd.block (g := w.heap.size) (by simp [World.setCell]; omega) (by omega)).trans ((Below.heap_setCell w3 ⟨w2.heap.size, 1, none⟩ _ _ (by simp; omega)).trans S0.out)
    have T1 := (hd.block (g := w2.heap.size) (by simp [World.setCell]; omega) (by omega)).trans (heap_setCell_same w3 _ 1 _ _ (.bool true) S1.out)
    clear hd c0 c1 c2 c3 cf
    obtain ⟨a0, a1, a2, a3, af⟩ := row4 T0
    obtain ⟨b0, b1, b2, b3, bf⟩ := row4 T1
    have hl0 := row_lt T0
    have hl1 := row_lt T1
    clear T0 T1
    have hne : ¬ w.heap.size = w2.heap.size := by omega
    have hne2 : ¬ w2.heap.size = w.heap.size := by omega
    go_wp2_with fail
    exact bodyPost_ret (v := .agg #[.string s1, .bool true, .string s2, .int .i64 x]) (by simp only [results, Try.results45]; go_simp) rfl ⟨⟨s1, true, s2, x⟩, rfl, ⟨rfl, hs1, hs2, (show I64 x from ⟨by omega, by omega⟩)⟩, ((((HD4.out.set hpl hpw _).set hpl (Nat.le_refl _) _).set hpl (Nat.le_refl _) _).set hpl (Nat.le_refl _) _).set hpl (Nat.le_refl _) _⟩
set_option maxHeartbeats 2000000 in
theorem c_l16AnyTaint (code : List UInt8) (p : Nat) (w : World) (h : CurAt code p w) :
    Calls Try.prog 27 #[.pointer (some ⟨p, 0, none⟩)] w fun e w' => ∃ d : Taint, e = .returned (.agg #[.string d.key, .string d.value, .int .i64 d.effect]) ∧ C_Taint d (encT d) ∧ Dr code p w w' := by
  have hpl := h.lt
  have hz0 : (⟨#[]⟩ : ByteArray).size ≤ 9223372036854775807 := by decide
  have hz1 : (⟨#[97, 47, 98]⟩ : ByteArray).size ≤ 9223372036854775807 := by decide
  go_enter Try.func27, Try.ntmps27
  go_wp2_with fail
  refine (c_l16Taint code p (w.alloc (.cells #[.string ⟨#[]⟩, .string ⟨#[]⟩, .int .i64 0] 32)) (h.below (ext_alloc (Below.refl _ _)))).mono ?_
  rintro e w1 ⟨d, rfl, hC, hd⟩
  obtain ⟨-, hs1, hs2, hs3⟩ := hC
  have H3 := Lib.hid hs3
  clear hs3
  have hq : w.heap.size < w1.heap.size := by have := hd.size; simp at this; omega
  have R0 := Lib.hid ((hd.block (g := w.heap.size) (by simp) (by omega)).trans (heap_alloc_new _ _))
  have HW := Lib.hid (Dr.cut hd)
  clear hd
  go_wp2_with fail
  refine (c_l01Below code p 10 (w1.alloc (.cells #[.string d.key, .string d.value, .int .i64 d.effect] 32)) (HW.out.cur.below (ext_alloc (Below.refl _ _))) (by decide)).mono ?_
  rintro e w3 ⟨x, rfl, -, -, -, hd⟩
  have HD3 := Lib.hid (HW.out.trans hd.cut)
  have hz3 : w1.heap.size < w3.heap.size := by have := hd.size; simp at this; omega
  have S0 := Lib.hid ((hd.block (g := w.heap.size) (by simp; omega) (by omega)).trans ((Below.heap_alloc _ _ _ hq).trans R0.out))
  have S1 := Lib.hid ((hd.block (g := w1.heap.size) (by simp) (by omega)).trans (heap_alloc_new _ _))
  clear hd
  have hpw : w.heap.size ≤ w1.heap.size := by omega
  have hne : ¬ w.heap.size = w1.heap.size := by omega
  have hne2 : ¬ w1.heap.size = w.heap.size := by omega
  by_cases e0 : x = 0
  · subst e0
    go_wp2_with fail
    refine (c_l01Below code p 5 _ HD3.out.cur (by decide)).mono ?_
    rintro e w4 ⟨y, rfl, hy0, hy1, -, hd⟩
    have hy2 := hy1 (by decide)
    have HD4 := Lib.hid (HD3.out.trans hd)
    have hz4 := hd.size
    have T0 := (hd.block (g := w.heap.size) (by omega) (by omega)).trans S0.out
    have T1 := (hd.block (g := w1.heap.size) (by omega) (by omega)).trans S1.out
    clear hd hy1
    obtain ⟨a0, a1, a2, af⟩ := row3 T0
    obtain ⟨b0, b1, b2, bf⟩ := row3 T1
    have hl0 := row_lt T0
    have hl1 := row_lt T1
    clear T0 T1
    go_wp2_with fail
    exact bodyPost_ret (v := .agg #[.string d.key, .string d.value, .int .i64 (y - 1)]) (by simp only [results, Try.results27]; go_simp) rfl ⟨⟨d.key, d.value, y - 1⟩, rfl, ⟨rfl, hs1, hs2, (show I64 (y - 1) from ⟨by omega, by omega⟩)⟩, (((HD4.out.set hpl hpw _).set hpl (Nat.le_refl _) _).set hpl (Nat.le_refl _) _).set hpl (Nat.le_refl _) _⟩
  · obtain ⟨a0, a1, a2, af⟩ := row3 S0.out
    obtain ⟨b0, b1, b2, bf⟩ := row3 S1.out
    have hl0 := row_lt S0.out
    have hl1 := row_lt S1.out
    have e0' : (x == 0) = false := beq_eq_false_iff_ne.2 e0
    clear e0
    by_cases e1 : x = 1
    · subst e1
      clear e0'
      go_wp2_with fail
      exact bodyPost_ret (v := .agg #[.string ⟨#[]⟩, .string d.value, .int .i64 d.effect]) (by simp only [results, Try.results27]; go_simp) rfl ⟨⟨⟨#[]⟩, d.value, d.effect⟩, rfl, ⟨rfl, hz0, hs2, H3.out⟩, (((HD3.out.set hpl hpw _).set hpl (Nat.le_refl _) _).set hpl (Nat.le_refl _) _).set hpl (Nat.le_refl _) _⟩
    · have e1' : (x == 1) = false := beq_eq_false_iff_ne.2 e1
      clear e1
      go_wp2_with fail
      exact bodyPost_ret (v := .agg #[.string d.key, .string d.value, .int .i64 d.effect]) (by simp only [results, Try.results27]; go_simp) rfl ⟨d, rfl, ⟨rfl, hs1, hs2, H3.out⟩, (((HD3.out).set hpl (Nat.le_refl _) _).set hpl (Nat.le_refl _) _).set hpl (Nat.le_refl _) _⟩
set_option maxHeartbeats 2000000 in
theorem c_l16AnyTolerance (code : List UInt8) (p : Nat) (w : World) (h : CurAt code p w) :
    Calls Try.prog 26 #[.pointer (some ⟨p, 0, none⟩)] w fun e w' => ∃ d : Tolerance, e = .returned (.agg #[.string d.key, .bool d.equal, .string d.value, .int .i64 d.effect]) ∧ C_Tolerance d (encTol d) ∧ Dr code p w w' := by
  have hpl := h.lt
  have hz0 : (⟨#[]⟩ : ByteArray).size ≤ 9223372036854775807 := by decide
  have hz1 : (⟨#[97, 47, 98]⟩ : ByteArray).size ≤ 9223372036854775807 := by decide
  go_enter Try.func26, Try.ntmps26
  go_wp2_with fail
  refine (c_l16Tolerance code p (w.alloc (.cells #[.string ⟨#[]⟩, .bool false, .string ⟨#[]⟩, .int .i64 0] 30)) (h.below (ext_alloc (Below.refl _ _)))).mono ?_
  rintro e w1 ⟨d, rfl, hC, hd⟩
  obtain ⟨-, hs1, hs2, hs3⟩ := hC
  have H3 := Lib.hid hs3
  clear hs3
  have hq : w.heap.size < w1.heap.size := by have := hd.size; simp at this; omega
  have R0 := Lib.hid ((hd.block (g := w.heap.size) (by simp) (by omega)).trans (heap_alloc_new _ _))
  have HW := Lib.hid (Dr.cut hd)
  clear hd
  go_wp2_with fail
  refine (c_l01Below code p 10 (w1.alloc (.cells #[.string d.key, .bool d.equal, .string d.value, .int .i64 d.effect] 30)) (HW.out.cur.below (ext_alloc (Below.refl _ _))) (by decide)).mono ?_
  rintro e w3 ⟨x, rfl, -, -, -, hd⟩
  have HD3 := Lib.hid (HW.out.trans hd.cut)
  have hz3 : w1.heap.size < w3.heap.size := by have := hd.size; simp at this; omega
  have S0 := Lib.hid ((hd.block (g := w.heap.size) (by simp; omega) (by omega)).trans ((Below.heap_alloc _ _ _ hq).trans R0.out))
  have S1 := Lib.hid ((hd.block (g := w1.heap.size) (by simp) (by omega)).trans (heap_alloc_new _ _))
  clear hd
  have hpw : w.heap.size ≤ w1.heap.size := by omega
  have hne : ¬ w.heap.size = w1.heap.size := by omega
  have hne2 : ¬ w1.heap.size = w.heap.size := by omega
  by_cases e0 : x = 0
  · subst e0
    go_wp2_with fail
    refine (c_l01Below code p 5 _ HD3.out.cur (by decide)).mono ?_
    rintro e w4 ⟨y, rfl, hy0, hy1, -, hd⟩
    have hy2 := hy1 (by decide)
    have HD4 := Lib.hid (HD3.out.trans hd)
    have hz4 := hd.size
    have T0 := (hd.block (g := w.heap.size) (by omega) (by omega)).trans S0.out
    have T1 := (hd.block (g := w1.heap.size) (by omega) (by omega)).trans S1.out
    clear hd hy1
    obtain ⟨a0, a1, a2, a3, af⟩ := row4 T0
    obtain ⟨b0, b1, b2, b3, bf⟩ := row4 T1
    have hl0 := row_lt T0
    have hl1 := row_lt T1
    clear T0 T1
    go_wp2_with fail
    exact bodyPost_ret (v := .agg #[.string d.key, .bool d.equal, .string d.value, .int .i64 (y - 1)]) (by simp only [results, Try.results26]; go_simp) rfl ⟨⟨d.key, d.equal, d.value, y - 1⟩, rfl, ⟨rfl, hs1, hs2, (show I64 (y - 1) from ⟨by omega, by omega⟩)⟩, ((((HD4.out.set hpl hpw _).set hpl (Nat.le_refl _) _).set hpl (Nat.le_refl _) _).set hpl (Nat.le_refl _) _).set hpl (Nat.le_refl _) _⟩
  · obtain ⟨a0, a1, a2, a3, af⟩ := row4 S0.out
    obtain ⟨b0, b1, b2, b3, bf⟩ := row4 S1.out
    have hl0 := row_lt S0.out
    have hl1 := row_lt S1.out
    have e0' : (x == 0) = false := beq_eq_false_iff_ne.2 e0
    clear e0
    by_cases e1 : x = 1
    · subst e1
      clear e0'
      go_wp2_with fail
      exact bodyPost_ret (v := .agg #[.string d.key, .bool (!d.equal), .string d.value, .int .i64 d.effect]) (by simp only [results, Try.results26]; go_simp) rfl ⟨⟨d.key, !d.equal, d.value, d.effect⟩, rfl, ⟨rfl, hs1, hs2, H3.out⟩, ((((HD3.out.set hpl hpw _).set hpl (Nat.le_refl _) _).set hpl (Nat.le_refl _) _).set hpl (Nat.le_refl _) _).set hpl (Nat.le_refl _) _⟩
    · have e1' : (x == 1) = false := beq_eq_false_iff_ne.2 e1
      clear e1
      by_cases e2 : x = 2
      · subst e2
        clear e0'
        go_wp2_with fail
        exact bodyPost_ret (v := .agg #[.string d.key, .bool d.equal, .string ⟨#[97, 47, 98]⟩, .int .i64 d.effect]) (by simp only [results, Try.results26]; go_simp) rfl ⟨⟨d.key, d.equal, ⟨#[97, 47, 98]⟩, d.effect⟩, rfl, ⟨rfl, hs1, hz1, H3.out⟩, ((((HD3.out.set hpl hpw _).set hpl (Nat.le_refl _) _).set hpl (Nat.le_refl _) _).set hpl (Nat.le_refl _) _).set hpl (Nat.le_refl _) _⟩
      · have e2' : (x == 2) = false := beq_eq_false_iff_ne.2 e2
        clear e2
        go_wp2_with fail
        exact bodyPost_ret (v := .agg #[.string d.key, .bool d.equal, .string d.value, .int .i64 d.effect]) (by simp only [results, Try.results26]; go_simp) rfl ⟨d, rfl, ⟨rfl, hs1, hs2, H3.out⟩, ((((HD3.out).set hpl (Nat.le_refl _) _).set hpl (Nat.le_refl _) _).set hpl (Nat.le_refl _) _).set hpl (Nat.le_refl _) _⟩
end Go.Proofs.Ytenkdjclecikkaa
