/- Written by wip/tools/pack.py: the texts that FnExactBracedNormal needs, without what it does not need. No conditions. -/
import Derived.Test.YtffelpdefjkeaaaGreatDoorKBrN12
import Derived.Test.YtffelpdefjkeaaaGreatDoorKBrN11
import Derived.Test.YtffelpdefjkeaaaGreatDoorKBrN10
import Derived.Lib.LazyBuf
namespace Go.Proofs.YtffelpdefjkeaaaGreatDoor
open Go.RowKit Go.Lib
set_option maxHeartbeats 8000000 in
set_option maxRecDepth 20000 in
theorem c_vals_text (L : List SignD) (E : Int) (b n d p m : Nat) (x : SignD) (w : World) (hL : SgOk L) (hx : L[p]? = some x) (hk : x.kind = 7) (hd8 : ¬ 8 < d) (hm3 : ¬ 300 ≤ m) (h : RdAtS L E b p m flt0 w) (hsz : ¬ 400 < x.text.size) :
    Calls Tryz.prog 31 #[.pointer (some ⟨b, 0, none⟩), .int .i64 d] w (ValE (RdAtS L E b) b L.length (10 - d) (readJ L E (n + 1) (.value d) p m) w) := by
  have HRd := Lib.hid h
  have hlb := h.lt
  have hlen := hL.len
  have hpl : p < L.length := (List.getElem?_eq_some_iff.1 hx).1
  have hz0 : (0 : Int) ≤ p := by omega
  have hz1 : (p : Int) < L.length := by omega
  have hnb : ¬ w.heap.size = b := by omega
  obtain ⟨r, hr⟩ : ∃ r, r = readJ L E (n + 1) (.value d) p m := ⟨_, rfl⟩
  obtain ⟨pl, hplc⟩ : ∃ pl, pl = placeAt L E p := ⟨_, rfl⟩
  obtain ⟨nd, hnd⟩ : ∃ k, 10 - d = k + 1 := ⟨9 - d, by omega⟩
  rw [← hr, hnd]
  have hkk : kindAt L p = 7 := (kindAt_some hx).trans hk
  rw [readJ_go hx (by rw [hkk]; decide) hd8 hm3] at hr
  have HP := Lib.hid hplc
  have HK := Lib.hid hkk
  have HX := Lib.hid hx
  have HN := Lib.hid hnd
  have htx := hL.text p x hx
  have hnx := hL.num p x hx
  unfold I64 at hnx
  obtain ⟨hnx1, hnx2⟩ := hnx
  have d8 : decide ((8 : Int) < d) = false := decide_eq_false (by omega)
  have d300 : decide ((300 : Int) < (m : Int) + 1) = false := decide_eq_false (by omega)
  have hm9 : (m : Int) ≤ 300 := by omega
  rw [if_pos hk, if_neg hsz] at hr
  have HR := Lib.hid hr
  have dsz : decide ((400 : Int) < x.text.size) = false := decide_eq_false (by omega)
  clear hsz
  clear hr h hx hkk hk hnd hd8 hm3 hplc
  go_enter Tryz.func31, Tryz.ntmps31
  go_wp2_with fail
  refine (c_rs_next L E b p m flt0 _ (by omega) (HRd.out.below bel)).mono ?_
  rintro e w1 ⟨rfl, hb1⟩
  rw [HK.out, ← HP.out]
  have HB1 := Lib.hid (bel : Below w.heap.size w w1)
  have HT1 := Lib.hid ((hb1.block w.heap.size (by simp)).trans (heap_at (w := w) (o := .cells #[.int .i64 0, .bool false, .int .i64 0, .string ⟨#[]⟩, .slice none 0 0, .slice none 0 0] 27) rfl))
  have HR1 := Lib.hid (HRd.out.below HB1.out)
  have hl1 := row_lt HT1.out
  obtain ⟨q0, q1, q2, q3, q4, q5, q6, q7, q8, q9, q10, q11⟩ := hin_lit
  obtain ⟨A, c, hbx, -, -⟩ := HR1.out
  unfold rdC at hbx
  obtain ⟨a0, a1, a2, a3, a4, a5, a6, af⟩ := row7r hbx
  have l1 := row_lt hbx
  clear hbx hb1
  go_upto_region 9 with (go_at_call 59; refine (c_spec_l01In _ _ _ _).mono ?_; rintro e w9 ⟨rfl, rfl⟩)
  obtain ⟨w2, hw2⟩ : ∃ W, W = w1.setCell ⟨b, 3, none⟩ (.int .i64 ((m : Int) + 1)) := ⟨_, rfl⟩
  have hA2 : Aside (fun q => q = b) w1 w2 := by rw [hw2]; exact aside_set rfl (Aside.refl _ _)
  have hR2 : RdAtS L E b p (m + 1) flt0 w2 := RdAtS.poke HR1.out hA2 (fun A c h => by rw [hw2]; unfold rdC at h ⊢; exact set7_3 h)
  rw [← hw2]
  have HR2 := Lib.hid hR2
  have HA2 := Lib.hid hA2
  have HT2 := Lib.hid ((hA2.block _ hl1 hnb).trans HT1.out)
  have hl2 := row_lt HT2.out
  clear a0 a1 a2 a3 a4 a5 a6 af hR2 hA2 hw2 q0 q1 q2 q3 q4 q5 q6 q7 q8 q9 q10 q11
  obtain ⟨A2, c2, hbx, hrow, -⟩ := HR2.out
  unfold rdC at hbx
  obtain ⟨a0, a1, a2, a3, a4, a5, a6, af⟩ := row7r hbx
  have l2 := row_lt hbx
  obtain ⟨g, y, rfl, hy, hlc, lg, s0, s1, s2, s3⟩ := sign_row (p := p) hrow hpl
  obtain rfl : y = x := Option.some.inj (hy.symm.trans HX.out)
  clear hbx hrow hy
  go_cut [7] from 46 to 55 (fun s7 wx => s7 = .pointer (some ⟨w2.heap.size, 0, none⟩) ∧ wx.heap[w2.heap.size]? = some (.cells #[.int .i64 y.kind, .string y.text, .int .i64 y.num, .int .i64 y.at'] 54 (0, 0)) ∧ Below w2.heap.size w2 wx)
  case first =>
    go_region_law (fail)
    all_goals
      go_wp2_with fail
      go_meet
      exact ⟨rfl, heap_at (by simp), bel⟩
  case rest =>
    obtain ⟨rfl, hXr, hBc⟩ := hcut
    have HXr := Lib.hid hXr
    have HBc := Lib.hid hBc
    have HRc := Lib.hid (HR2.out.below hBc)
    have HTc := Lib.hid ((hBc.block _ hl2).trans HT2.out)
    have hl3 := row_lt HTc.out
    have hl3x := row_lt hXr
    have hnx3 : ¬ w2.heap.size = b := by omega
    have hnxt : ¬ w2.heap.size = w.heap.size := by omega
    clear a0 a1 a2 a3 a4 a5 a6 af s0 s1 s2 s3 hXr hBc
    obtain ⟨A3, c3, hbx, -, -⟩ := HRc.out
    unfold rdC at hbx
    obtain ⟨a0, a1, a2, a3, a4, a5, a6, af⟩ := row7r hbx
    have l3 := row_lt hbx
    clear hbx
    go_upto_region 11 with fail
    obtain ⟨w3, hw3⟩ : ∃ W, W = wc.setCell ⟨b, 1, none⟩ (.int .i64 ((p : Int) + 1)) := ⟨_, rfl⟩
    have hA3 : Aside (fun q => q = b) wc w3 := by rw [hw3]; exact aside_set rfl (Aside.refl _ _)
    have hR3 : RdAtS L E b (p + 1) (m + 1) flt0 w3 := RdAtS.poke HRc.out hA3 (fun A c h => by rw [hw3]; unfold rdC at h ⊢; exact set7_1 h)
    rw [← hw3]
    have HR3 := Lib.hid hR3
    have HT3 := Lib.hid ((hA3.block _ (row_lt HTc.out) hnb).trans HTc.out)
    have HX3 := Lib.hid ((hA3.block _ (row_lt HXr.out) hnx3).trans HXr.out)
    have HAw := Lib.hid (show Aside (fun q => q = b ∨ w.heap.size ≤ q) w w3 from (Aside.of_below HB1.out).trans ((HA2.out.mono (fun q h => .inl h)).trans ((Aside.of_below HBc.out).trans (hA3.mono (fun q h => .inl h)))))
    have hl4 := row_lt HT3.out
    have hl4x := row_lt HX3.out
    have hl4b := hR3.lt
    clear a0 a1 a2 a3 a4 a5 a6 af hR3 hA3 hw3
    obtain ⟨z0, z1, z2, z3, zf⟩ := row4 HX3.out
    obtain ⟨x0, x1, x2, x3, x4, x5, xf⟩ := row6 HT3.out
    go_wp2_with fail
    refine (c_rs_TextTree y.text _).mono ?_
    rintro e w9 ⟨rfl, hb9⟩
    have HB9 := Lib.hid hb9
    have HT9 := Lib.hid ((hb9.block _ hl4).trans HT3.out)
    have hl9 := row_lt HT9.out
    clear x0 x1 x2 x3 x4 x5 xf z0 z1 z2 z3 zf hb9
    obtain ⟨x0, x1, x2, x3, x4, x5, xf⟩ := row6 HT9.out
    go_wp2_with fail
    exact bodyPost_ret (v := .agg #[.int .i64 4, .bool false, .int .i64 0, .string y.text, .slice none 0 0, .slice none 0 0]) (by simp only [results, Tryz.results31]; go_simp) rfl (ValE.good HR.out (GoodT.closeS (w3 := w3) ⟨[.int .i64 4, .bool false, .int .i64 0, .string y.text, .slice none 0 0, .slice none 0 0], rfl, own_leaf (by unfold I64; decide) (by unfold I64; decide) (by omega), HR3.out.below HB9.out, Aside.of_below HB9.out⟩ HAw.out (by repeat (first | (with_reducible exact Aside.refl _ _) | ((with_reducible refine aside_set ?_ ?_); (focus (simp; done))) | (with_reducible refine aside_alloc ?_))) (by omega) hlb))
set_option maxHeartbeats 8000000 in
set_option maxRecDepth 20000 in
theorem c_vals_num (L : List SignD) (E : Int) (b n d p m : Nat) (x : SignD) (w : World) (hL : SgOk L) (hx : L[p]? = some x) (hk : x.kind = 8) (hd8 : ¬ 8 < d) (hm3 : ¬ 300 ≤ m) (h : RdAtS L E b p m flt0 w) :
    Calls Tryz.prog 31 #[.pointer (some ⟨b, 0, none⟩), .int .i64 d] w (ValE (RdAtS L E b) b L.length (10 - d) (readJ L E (n + 1) (.value d) p m) w) := by
  have HRd := Lib.hid h
  have hlb := h.lt
  have hlen := hL.len
  have hpl : p < L.length := (List.getElem?_eq_some_iff.1 hx).1
  have hz0 : (0 : Int) ≤ p := by omega
  have hz1 : (p : Int) < L.length := by omega
  have hnb : ¬ w.heap.size = b := by omega
  obtain ⟨r, hr⟩ : ∃ r, r = readJ L E (n + 1) (.value d) p m := ⟨_, rfl⟩
  obtain ⟨pl, hplc⟩ : ∃ pl, pl = placeAt L E p := ⟨_, rfl⟩
  obtain ⟨nd, hnd⟩ : ∃ k, 10 - d = k + 1 := ⟨9 - d, by omega⟩
  rw [← hr, hnd]
  have hkk : kindAt L p = 8 := (kindAt_some hx).trans hk
  rw [readJ_go hx (by rw [hkk]; decide) hd8 hm3] at hr
  have HP := Lib.hid hplc
  have HK := Lib.hid hkk
  have HX := Lib.hid hx
  have HN := Lib.hid hnd
  have htx := hL.text p x hx
  have hnx := hL.num p x hx
  unfold I64 at hnx
  obtain ⟨hnx1, hnx2⟩ := hnx
  have d8 : decide ((8 : Int) < d) = false := decide_eq_false (by omega)
  have d300 : decide ((300 : Int) < (m : Int) + 1) = false := decide_eq_false (by omega)
  have hm9 : (m : Int) ≤ 300 := by omega
  rw [if_neg (by rw [hk]; decide), if_pos hk] at hr
  have HR := Lib.hid hr
  clear hr h hx hkk hk hnd hd8 hm3 hplc
  go_enter Tryz.func31, Tryz.ntmps31
  go_wp2_with fail
  refine (c_rs_next L E b p m flt0 _ (by omega) (HRd.out.below bel)).mono ?_
  rintro e w1 ⟨rfl, hb1⟩
  rw [HK.out, ← HP.out]
  have HB1 := Lib.hid (bel : Below w.heap.size w w1)
  have HT1 := Lib.hid ((hb1.block w.heap.size (by simp)).trans (heap_at (w := w) (o := .cells #[.int .i64 0, .bool false, .int .i64 0, .string ⟨#[]⟩, .slice none 0 0, .slice none 0 0] 27) rfl))
  have HR1 := Lib.hid (HRd.out.below HB1.out)
  have hl1 := row_lt HT1.out
  obtain ⟨q0, q1, q2, q3, q4, q5, q6, q7, q8, q9, q10, q11⟩ := hin_lit
  obtain ⟨A, c, hbx, -, -⟩ := HR1.out
  unfold rdC at hbx
  obtain ⟨a0, a1, a2, a3, a4, a5, a6, af⟩ := row7r hbx
  have l1 := row_lt hbx
  clear hbx hb1
  go_upto_region 9 with (go_at_call 59; refine (c_spec_l01In _ _ _ _).mono ?_; rintro e w9 ⟨rfl, rfl⟩)
  obtain ⟨w2, hw2⟩ : ∃ W, W = w1.setCell ⟨b, 3, none⟩ (.int .i64 ((m : Int) + 1)) := ⟨_, rfl⟩
  have hA2 : Aside (fun q => q = b) w1 w2 := by rw [hw2]; exact aside_set rfl (Aside.refl _ _)
  have hR2 : RdAtS L E b p (m + 1) flt0 w2 := RdAtS.poke HR1.out hA2 (fun A c h => by rw [hw2]; unfold rdC at h ⊢; exact set7_3 h)
  rw [← hw2]
  have HR2 := Lib.hid hR2
  have HA2 := Lib.hid hA2
  have HT2 := Lib.hid ((hA2.block _ hl1 hnb).trans HT1.out)
  have hl2 := row_lt HT2.out
  clear a0 a1 a2 a3 a4 a5 a6 af hR2 hA2 hw2 q0 q1 q2 q3 q4 q5 q6 q7 q8 q9 q10 q11
  obtain ⟨A2, c2, hbx, hrow, -⟩ := HR2.out
  unfold rdC at hbx
  obtain ⟨a0, a1, a2, a3, a4, a5, a6, af⟩ := row7r hbx
  have l2 := row_lt hbx
  obtain ⟨g, y, rfl, hy, hlc, lg, s0, s1, s2, s3⟩ := sign_row (p := p) hrow hpl
  obtain rfl : y = x := Option.some.inj (hy.symm.trans HX.out)
  clear hbx hrow hy
  go_cut [7] from 46 to 55 (fun s7 wx => s7 = .pointer (some ⟨w2.heap.size, 0, none⟩) ∧ wx.heap[w2.heap.size]? = some (.cells #[.int .i64 y.kind, .string y.text, .int .i64 y.num, .int .i64 y.at'] 54 (0, 0)) ∧ Below w2.heap.size w2 wx)
  case first =>
    go_region_law (fail)
    all_goals
      go_wp2_with fail
      go_meet
      exact ⟨rfl, heap_at (by simp), bel⟩
  case rest =>
    obtain ⟨rfl, hXr, hBc⟩ := hcut
    have HXr := Lib.hid hXr
    have HBc := Lib.hid hBc
    have HRc := Lib.hid (HR2.out.below hBc)
    have HTc := Lib.hid ((hBc.block _ hl2).trans HT2.out)
    have hl3 := row_lt HTc.out
    have hl3x := row_lt hXr
    have hnx3 : ¬ w2.heap.size = b := by omega
    have hnxt : ¬ w2.heap.size = w.heap.size := by omega
    clear a0 a1 a2 a3 a4 a5 a6 af s0 s1 s2 s3 hXr hBc
    obtain ⟨A3, c3, hbx, -, -⟩ := HRc.out
    unfold rdC at hbx
    obtain ⟨a0, a1, a2, a3, a4, a5, a6, af⟩ := row7r hbx
    have l3 := row_lt hbx
    clear hbx
    go_upto_region 11 with fail
    obtain ⟨w3, hw3⟩ : ∃ W, W = wc.setCell ⟨b, 1, none⟩ (.int .i64 ((p : Int) + 1)) := ⟨_, rfl⟩
    have hA3 : Aside (fun q => q = b) wc w3 := by rw [hw3]; exact aside_set rfl (Aside.refl _ _)
    have hR3 : RdAtS L E b (p + 1) (m + 1) flt0 w3 := RdAtS.poke HRc.out hA3 (fun A c h => by rw [hw3]; unfold rdC at h ⊢; exact set7_1 h)
    rw [← hw3]
    have HR3 := Lib.hid hR3
    have HT3 := Lib.hid ((hA3.block _ (row_lt HTc.out) hnb).trans HTc.out)
    have HX3 := Lib.hid ((hA3.block _ (row_lt HXr.out) hnx3).trans HXr.out)
    have HAw := Lib.hid (show Aside (fun q => q = b ∨ w.heap.size ≤ q) w w3 from (Aside.of_below HB1.out).trans ((HA2.out.mono (fun q h => .inl h)).trans ((Aside.of_below HBc.out).trans (hA3.mono (fun q h => .inl h)))))
    have hl4 := row_lt HT3.out
    have hl4x := row_lt HX3.out
    have hl4b := hR3.lt
    clear a0 a1 a2 a3 a4 a5 a6 af hR3 hA3 hw3
    obtain ⟨z0, z1, z2, z3, zf⟩ := row4 HX3.out
    obtain ⟨x0, x1, x2, x3, x4, x5, xf⟩ := row6 HT3.out
    go_wp2_with fail
    refine (c_rs_IntTree y.num _).mono ?_
    rintro e w9 ⟨rfl, hb9⟩
    have HB9 := Lib.hid hb9
    have HT9 := Lib.hid ((hb9.block _ hl4).trans HT3.out)
    have hl9 := row_lt HT9.out
    clear x0 x1 x2 x3 x4 x5 xf z0 z1 z2 z3 zf hb9
    obtain ⟨x0, x1, x2, x3, x4, x5, xf⟩ := row6 HT9.out
    go_wp2_with fail
    exact bodyPost_ret (v := .agg #[.int .i64 3, .bool false, .int .i64 y.num, .string ⟨#[]⟩, .slice none 0 0, .slice none 0 0]) (by simp only [results, Tryz.results31]; go_simp) rfl (ValE.good HR.out (GoodT.closeS (w3 := w3) ⟨[.int .i64 3, .bool false, .int .i64 y.num, .string ⟨#[]⟩, .slice none 0 0, .slice none 0 0], rfl, own_leaf (by unfold I64; decide) (by unfold I64; omega) (by decide), HR3.out.below HB9.out, Aside.of_below HB9.out⟩ HAw.out (by repeat (first | (with_reducible exact Aside.refl _ _) | ((with_reducible refine aside_set ?_ ?_); (focus (simp; done))) | (with_reducible refine aside_alloc ?_))) (by omega) hlb))
set_option maxHeartbeats 8000000 in
set_option maxRecDepth 20000 in
theorem c_vals_null (L : List SignD) (E : Int) (b n d p m : Nat) (x : SignD) (w : World) (hL : SgOk L) (hx : L[p]? = some x) (hk : x.kind = 11) (hd8 : ¬ 8 < d) (hm3 : ¬ 300 ≤ m) (h : RdAtS L E b p m flt0 w) :
    Calls Tryz.prog 31 #[.pointer (some ⟨b, 0, none⟩), .int .i64 d] w (ValE (RdAtS L E b) b L.length (10 - d) (readJ L E (n + 1) (.value d) p m) w) := by
  have HRd := Lib.hid h
  have hlb := h.lt
  have hlen := hL.len
  have hpl : p < L.length := (List.getElem?_eq_some_iff.1 hx).1
  have hz0 : (0 : Int) ≤ p := by omega
  have hz1 : (p : Int) < L.length := by omega
  have hnb : ¬ w.heap.size = b := by omega
  obtain ⟨r, hr⟩ : ∃ r, r = readJ L E (n + 1) (.value d) p m := ⟨_, rfl⟩
  obtain ⟨pl, hplc⟩ : ∃ pl, pl = placeAt L E p := ⟨_, rfl⟩
  obtain ⟨nd, hnd⟩ : ∃ k, 10 - d = k + 1 := ⟨9 - d, by omega⟩
  rw [← hr, hnd]
  have hkk : kindAt L p = 11 := (kindAt_some hx).trans hk
  rw [readJ_go hx (by rw [hkk]; decide) hd8 hm3] at hr
  have HP := Lib.hid hplc
  have HK := Lib.hid hkk
  have HX := Lib.hid hx
  have HN := Lib.hid hnd
  have htx := hL.text p x hx
  have hnx := hL.num p x hx
  unfold I64 at hnx
  obtain ⟨hnx1, hnx2⟩ := hnx
  have d8 : decide ((8 : Int) < d) = false := decide_eq_false (by omega)
  have d300 : decide ((300 : Int) < (m : Int) + 1) = false := decide_eq_false (by omega)
  have hm9 : (m : Int) ≤ 300 := by omega
  rw [if_neg (by rw [hk]; decide), if_neg (by rw [hk]; decide), if_pos hk] at hr
  have HR := Lib.hid hr
  clear hr h hx hkk hk hnd hd8 hm3 hplc
  go_enter Tryz.func31, Tryz.ntmps31
  go_wp2_with fail
  refine (c_rs_next L E b p m flt0 _ (by omega) (HRd.out.below bel)).mono ?_
  rintro e w1 ⟨rfl, hb1⟩
  rw [HK.out, ← HP.out]
  have HB1 := Lib.hid (bel : Below w.heap.size w w1)
  have HT1 := Lib.hid ((hb1.block w.heap.size (by simp)).trans (heap_at (w := w) (o := .cells #[.int .i64 0, .bool false, .int .i64 0, .string ⟨#[]⟩, .slice none 0 0, .slice none 0 0] 27) rfl))
  have HR1 := Lib.hid (HRd.out.below HB1.out)
  have hl1 := row_lt HT1.out
  obtain ⟨q0, q1, q2, q3, q4, q5, q6, q7, q8, q9, q10, q11⟩ := hin_lit
  obtain ⟨A, c, hbx, -, -⟩ := HR1.out
  unfold rdC at hbx
  obtain ⟨a0, a1, a2, a3, a4, a5, a6, af⟩ := row7r hbx
  have l1 := row_lt hbx
  clear hbx hb1
  go_upto_region 9 with (go_at_call 59; refine (c_spec_l01In _ _ _ _).mono ?_; rintro e w9 ⟨rfl, rfl⟩)
  obtain ⟨w2, hw2⟩ : ∃ W, W = w1.setCell ⟨b, 3, none⟩ (.int .i64 ((m : Int) + 1)) := ⟨_, rfl⟩
  have hA2 : Aside (fun q => q = b) w1 w2 := by rw [hw2]; exact aside_set rfl (Aside.refl _ _)
  have hR2 : RdAtS L E b p (m + 1) flt0 w2 := RdAtS.poke HR1.out hA2 (fun A c h => by rw [hw2]; unfold rdC at h ⊢; exact set7_3 h)
  rw [← hw2]
  have HR2 := Lib.hid hR2
  have HA2 := Lib.hid hA2
  have HT2 := Lib.hid ((hA2.block _ hl1 hnb).trans HT1.out)
  have hl2 := row_lt HT2.out
  clear a0 a1 a2 a3 a4 a5 a6 af hR2 hA2 hw2 q0 q1 q2 q3 q4 q5 q6 q7 q8 q9 q10 q11
  obtain ⟨A2, c2, hbx, hrow, -⟩ := HR2.out
  unfold rdC at hbx
  obtain ⟨a0, a1, a2, a3, a4, a5, a6, af⟩ := row7r hbx
  have l2 := row_lt hbx
  obtain ⟨g, y, rfl, hy, hlc, lg, s0, s1, s2, s3⟩ := sign_row (p := p) hrow hpl
  obtain rfl : y = x := Option.some.inj (hy.symm.trans HX.out)
  clear hbx hrow hy
  go_cut [7] from 46 to 55 (fun s7 wx => s7 = .pointer (some ⟨w2.heap.size, 0, none⟩) ∧ wx.heap[w2.heap.size]? = some (.cells #[.int .i64 y.kind, .string y.text, .int .i64 y.num, .int .i64 y.at'] 54 (0, 0)) ∧ Below w2.heap.size w2 wx)
  case first =>
    go_region_law (fail)
    all_goals
      go_wp2_with fail
      go_meet
      exact ⟨rfl, heap_at (by simp), bel⟩
  case rest =>
    obtain ⟨rfl, hXr, hBc⟩ := hcut
    have HXr := Lib.hid hXr
    have HBc := Lib.hid hBc
    have HRc := Lib.hid (HR2.out.below hBc)
    have HTc := Lib.hid ((hBc.block _ hl2).trans HT2.out)
    have hl3 := row_lt HTc.out
    have hl3x := row_lt hXr
    have hnx3 : ¬ w2.heap.size = b := by omega
    have hnxt : ¬ w2.heap.size = w.heap.size := by omega
    clear a0 a1 a2 a3 a4 a5 a6 af s0 s1 s2 s3 hXr hBc
    obtain ⟨A3, c3, hbx, -, -⟩ := HRc.out
    unfold rdC at hbx
    obtain ⟨a0, a1, a2, a3, a4, a5, a6, af⟩ := row7r hbx
    have l3 := row_lt hbx
    clear hbx
    go_upto_region 11 with fail
    obtain ⟨w3, hw3⟩ : ∃ W, W = wc.setCell ⟨b, 1, none⟩ (.int .i64 ((p : Int) + 1)) := ⟨_, rfl⟩
    have hA3 : Aside (fun q => q = b) wc w3 := by rw [hw3]; exact aside_set rfl (Aside.refl _ _)
    have hR3 : RdAtS L E b (p + 1) (m + 1) flt0 w3 := RdAtS.poke HRc.out hA3 (fun A c h => by rw [hw3]; unfold rdC at h ⊢; exact set7_1 h)
    rw [← hw3]
    have HR3 := Lib.hid hR3
    have HT3 := Lib.hid ((hA3.block _ (row_lt HTc.out) hnb).trans HTc.out)
    have HX3 := Lib.hid ((hA3.block _ (row_lt HXr.out) hnx3).trans HXr.out)
    have HAw := Lib.hid (show Aside (fun q => q = b ∨ w.heap.size ≤ q) w w3 from (Aside.of_below HB1.out).trans ((HA2.out.mono (fun q h => .inl h)).trans ((Aside.of_below HBc.out).trans (hA3.mono (fun q h => .inl h)))))
    have hl4 := row_lt HT3.out
    have hl4x := row_lt HX3.out
    have hl4b := hR3.lt
    clear a0 a1 a2 a3 a4 a5 a6 af hR3 hA3 hw3
    obtain ⟨z0, z1, z2, z3, zf⟩ := row4 HX3.out
    obtain ⟨x0, x1, x2, x3, x4, x5, xf⟩ := row6 HT3.out
    go_wp2_with fail
    exact bodyPost_ret (v := .agg #[.int .i64 1, .bool false, .int .i64 0, .string ⟨#[]⟩, .slice none 0 0, .slice none 0 0]) (by simp only [results, Tryz.results31]; go_simp) rfl (ValE.good HR.out (GoodT.closeS (w3 := w3) ⟨[.int .i64 1, .bool false, .int .i64 0, .string ⟨#[]⟩, .slice none 0 0, .slice none 0 0], rfl, own_leaf (by unfold I64; decide) (by unfold I64; decide) (by decide), HR3.out, Aside.refl _ _⟩ HAw.out (by repeat (first | (with_reducible exact Aside.refl _ _) | ((with_reducible refine aside_set ?_ ?_); (focus (simp; done))) | (with_reducible refine aside_alloc ?_))) (by omega) hlb))
set_option maxHeartbeats 8000000 in
set_option maxRecDepth 20000 in
theorem c_vals_true (L : List SignD) (E : Int) (b n d p m : Nat) (x : SignD) (w : World) (hL : SgOk L) (hx : L[p]? = some x) (hk : x.kind = 9) (hd8 : ¬ 8 < d) (hm3 : ¬ 300 ≤ m) (h : RdAtS L E b p m flt0 w) :
    Calls Tryz.prog 31 #[.pointer (some ⟨b, 0, none⟩), .int .i64 d] w (ValE (RdAtS L E b) b L.length (10 - d) (readJ L E (n + 1) (.value d) p m) w) := by
  have HRd := Lib.hid h
  have hlb := h.lt
  have hlen := hL.len
  have hpl : p < L.length := (List.getElem?_eq_some_iff.1 hx).1
  have hz0 : (0 : Int) ≤ p := by omega
  have hz1 : (p : Int) < L.length := by omega
  have hnb : ¬ w.heap.size = b := by omega
  obtain ⟨r, hr⟩ : ∃ r, r = readJ L E (n + 1) (.value d) p m := ⟨_, rfl⟩
  obtain ⟨pl, hplc⟩ : ∃ pl, pl = placeAt L E p := ⟨_, rfl⟩
  obtain ⟨nd, hnd⟩ : ∃ k, 10 - d = k + 1 := ⟨9 - d, by omega⟩
  rw [← hr, hnd]
  have hkk : kindAt L p = 9 := (kindAt_some hx).trans hk
  rw [readJ_go hx (by rw [hkk]; decide) hd8 hm3] at hr
  have HP := Lib.hid hplc
  have HK := Lib.hid hkk
  have HX := Lib.hid hx
  have HN := Lib.hid hnd
  have htx := hL.text p x hx
  have hnx := hL.num p x hx
  unfold I64 at hnx
  obtain ⟨hnx1, hnx2⟩ := hnx
  have d8 : decide ((8 : Int) < d) = false := decide_eq_false (by omega)
  have d300 : decide ((300 : Int) < (m : Int) + 1) = false := decide_eq_false (by omega)
  have hm9 : (m : Int) ≤ 300 := by omega
  rw [if_neg (by rw [hk]; decide), if_neg (by rw [hk]; decide), if_neg (by rw [hk]; decide), if_neg (by rw [hk]; decide), if_neg (by rw [hk]; decide), show (x.kind == 9) = true by rw [hk]; rfl] at hr
  have HR := Lib.hid hr
  clear hr h hx hkk hk hnd hd8 hm3 hplc
  go_enter Tryz.func31, Tryz.ntmps31
  go_wp2_with fail
  refine (c_rs_next L E b p m flt0 _ (by omega) (HRd.out.below bel)).mono ?_
  rintro e w1 ⟨rfl, hb1⟩
  rw [HK.out, ← HP.out]
  have HB1 := Lib.hid (bel : Below w.heap.size w w1)
  have HT1 := Lib.hid ((hb1.block w.heap.size (by simp)).trans (heap_at (w := w) (o := .cells #[.int .i64 0, .bool false, .int .i64 0, .string ⟨#[]⟩, .slice none 0 0, .slice none 0 0] 27) rfl))
  have HR1 := Lib.hid (HRd.out.below HB1.out)
  have hl1 := row_lt HT1.out
  obtain ⟨q0, q1, q2, q3, q4, q5, q6, q7, q8, q9, q10, q11⟩ := hin_lit
  obtain ⟨A, c, hbx, -, -⟩ := HR1.out
  unfold rdC at hbx
  obtain ⟨a0, a1, a2, a3, a4, a5, a6, af⟩ := row7r hbx
  have l1 := row_lt hbx
  clear hbx hb1
  go_upto_region 9 with (go_at_call 59; refine (c_spec_l01In _ _ _ _).mono ?_; rintro e w9 ⟨rfl, rfl⟩)
  obtain ⟨w2, hw2⟩ : ∃ W, W = w1.setCell ⟨b, 3, none⟩ (.int .i64 ((m : Int) + 1)) := ⟨_, rfl⟩
  have hA2 : Aside (fun q => q = b) w1 w2 := by rw [hw2]; exact aside_set rfl (Aside.refl _ _)
  have hR2 : RdAtS L E b p (m + 1) flt0 w2 := RdAtS.poke HR1.out hA2 (fun A c h => by rw [hw2]; unfold rdC at h ⊢; exact set7_3 h)
  rw [← hw2]
  have HR2 := Lib.hid hR2
  have HA2 := Lib.hid hA2
  have HT2 := Lib.hid ((hA2.block _ hl1 hnb).trans HT1.out)
  have hl2 := row_lt HT2.out
  clear a0 a1 a2 a3 a4 a5 a6 af hR2 hA2 hw2 q0 q1 q2 q3 q4 q5 q6 q7 q8 q9 q10 q11
  obtain ⟨A2, c2, hbx, hrow, -⟩ := HR2.out
  unfold rdC at hbx
  obtain ⟨a0, a1, a2, a3, a4, a5, a6, af⟩ := row7r hbx
  have l2 := row_lt hbx
  obtain ⟨g, y, rfl, hy, hlc, lg, s0, s1, s2, s3⟩ := sign_row (p := p) hrow hpl
  obtain rfl : y = x := Option.some.inj (hy.symm.trans HX.out)
  clear hbx hrow hy
  go_cut [7] from 46 to 55 (fun s7 wx => s7 = .pointer (some ⟨w2.heap.size, 0, none⟩) ∧ wx.heap[w2.heap.size]? = some (.cells #[.int .i64 y.kind, .string y.text, .int .i64 y.num, .int .i64 y.at'] 54 (0, 0)) ∧ Below w2.heap.size w2 wx)
  case first =>
    go_region_law (fail)
    all_goals
      go_wp2_with fail
      go_meet
      exact ⟨rfl, heap_at (by simp), bel⟩
  case rest =>
    obtain ⟨rfl, hXr, hBc⟩ := hcut
    have HXr := Lib.hid hXr
    have HBc := Lib.hid hBc
    have HRc := Lib.hid (HR2.out.below hBc)
    have HTc := Lib.hid ((hBc.block _ hl2).trans HT2.out)
    have hl3 := row_lt HTc.out
    have hl3x := row_lt hXr
    have hnx3 : ¬ w2.heap.size = b := by omega
    have hnxt : ¬ w2.heap.size = w.heap.size := by omega
    clear a0 a1 a2 a3 a4 a5 a6 af s0 s1 s2 s3 hXr hBc
    obtain ⟨A3, c3, hbx, -, -⟩ := HRc.out
    unfold rdC at hbx
    obtain ⟨a0, a1, a2, a3, a4, a5, a6, af⟩ := row7r hbx
    have l3 := row_lt hbx
    clear hbx
    go_upto_region 11 with fail
    obtain ⟨w3, hw3⟩ : ∃ W, W = wc.setCell ⟨b, 1, none⟩ (.int .i64 ((p : Int) + 1)) := ⟨_, rfl⟩
    have hA3 : Aside (fun q => q = b) wc w3 := by rw [hw3]; exact aside_set rfl (Aside.refl _ _)
    have hR3 : RdAtS L E b (p + 1) (m + 1) flt0 w3 := RdAtS.poke HRc.out hA3 (fun A c h => by rw [hw3]; unfold rdC at h ⊢; exact set7_1 h)
    rw [← hw3]
    have HR3 := Lib.hid hR3
    have HT3 := Lib.hid ((hA3.block _ (row_lt HTc.out) hnb).trans HTc.out)
    have HX3 := Lib.hid ((hA3.block _ (row_lt HXr.out) hnx3).trans HXr.out)
    have HAw := Lib.hid (show Aside (fun q => q = b ∨ w.heap.size ≤ q) w w3 from (Aside.of_below HB1.out).trans ((HA2.out.mono (fun q h => .inl h)).trans ((Aside.of_below HBc.out).trans (hA3.mono (fun q h => .inl h)))))
    have hl4 := row_lt HT3.out
    have hl4x := row_lt HX3.out
    have hl4b := hR3.lt
    clear a0 a1 a2 a3 a4 a5 a6 af hR3 hA3 hw3
    obtain ⟨z0, z1, z2, z3, zf⟩ := row4 HX3.out
    obtain ⟨x0, x1, x2, x3, x4, x5, xf⟩ := row6 HT3.out
    go_wp2_with fail
    exact bodyPost_ret (v := .agg #[.int .i64 2, .bool true, .int .i64 0, .string ⟨#[]⟩, .slice none 0 0, .slice none 0 0]) (by simp only [results, Tryz.results31]; go_simp) rfl (ValE.good HR.out (GoodT.closeS (w3 := w3) ⟨[.int .i64 2, .bool true, .int .i64 0, .string ⟨#[]⟩, .slice none 0 0, .slice none 0 0], rfl, own_leaf (by unfold I64; decide) (by unfold I64; decide) (by decide), HR3.out, Aside.refl _ _⟩ HAw.out (by repeat (first | (with_reducible exact Aside.refl _ _) | ((with_reducible refine aside_set ?_ ?_); (focus (simp; done))) | (with_reducible refine aside_alloc ?_))) (by omega) hlb))
set_option maxHeartbeats 8000000 in
set_option maxRecDepth 20000 in
theorem c_vals_false (L : List SignD) (E : Int) (b n d p m : Nat) (x : SignD) (w : World) (hL : SgOk L) (hx : L[p]? = some x) (hk : x.kind = 10) (hd8 : ¬ 8 < d) (hm3 : ¬ 300 ≤ m) (h : RdAtS L E b p m flt0 w) :
    Calls Tryz.prog 31 #[.pointer (some ⟨b, 0, none⟩), .int .i64 d] w (ValE (RdAtS L E b) b L.length (10 - d) (readJ L E (n + 1) (.value d) p m) w) := by
  have HRd := Lib.hid h
  have hlb := h.lt
  have hlen := hL.len
  have hpl : p < L.length := (List.getElem?_eq_some_iff.1 hx).1
  have hz0 : (0 : Int) ≤ p := by omega
  have hz1 : (p : Int) < L.length := by omega
  have hnb : ¬ w.heap.size = b := by omega
  obtain ⟨r, hr⟩ : ∃ r, r = readJ L E (n + 1) (.value d) p m := ⟨_, rfl⟩
  obtain ⟨pl, hplc⟩ : ∃ pl, pl = placeAt L E p := ⟨_, rfl⟩
  obtain ⟨nd, hnd⟩ : ∃ k, 10 - d = k + 1 := ⟨9 - d, by omega⟩
  rw [← hr, hnd]
  have hkk : kindAt L p = 10 := (kindAt_some hx).trans hk
  rw [readJ_go hx (by rw [hkk]; decide) hd8 hm3] at hr
  have HP := Lib.hid hplc
  have HK := Lib.hid hkk
  have HX := Lib.hid hx
  have HN := Lib.hid hnd
  have htx := hL.text p x hx
  have hnx := hL.num p x hx
  unfold I64 at hnx
  obtain ⟨hnx1, hnx2⟩ := hnx
  have d8 : decide ((8 : Int) < d) = false := decide_eq_false (by omega)
  have d300 : decide ((300 : Int) < (m : Int) + 1) = false := decide_eq_false (by omega)
  have hm9 : (m : Int) ≤ 300 := by omega
  rw [if_neg (by rw [hk]; decide), if_neg (by rw [hk]; decide), if_neg (by rw [hk]; decide), if_neg (by rw [hk]; decide), if_neg (by rw [hk]; decide), show (x.kind == 9) = false by rw [hk]; rfl] at hr
  have HR := Lib.hid hr
  clear hr h hx hkk hk hnd hd8 hm3 hplc
  go_enter Tryz.func31, Tryz.ntmps31
  go_wp2_with fail
  refine (c_rs_next L E b p m flt0 _ (by omega) (HRd.out.below bel)).mono ?_
  rintro e w1 ⟨rfl, hb1⟩
  rw [HK.out, ← HP.out]
  have HB1 := Lib.hid (bel : Below w.heap.size w w1)
  have HT1 := Lib.hid ((hb1.block w.heap.size (by simp)).trans (heap_at (w := w) (o := .cells #[.int .i64 0, .bool false, .int .i64 0, .string ⟨#[]⟩, .slice none 0 0, .slice none 0 0] 27) rfl))
  have HR1 := Lib.hid (HRd.out.below HB1.out)
  have hl1 := row_lt HT1.out
  obtain ⟨q0, q1, q2, q3, q4, q5, q6, q7, q8, q9, q10, q11⟩ := hin_lit
  obtain ⟨A, c, hbx, -, -⟩ := HR1.out
  unfold rdC at hbx
  obtain ⟨a0, a1, a2, a3, a4, a5, a6, af⟩ := row7r hbx
  have l1 := row_lt hbx
  clear hbx hb1
  go_upto_region 9 with (go_at_call 59; refine (c_spec_l01In _ _ _ _).mono ?_; rintro e w9 ⟨rfl, rfl⟩)
  obtain ⟨w2, hw2⟩ : ∃ W, W = w1.setCell ⟨b, 3, none⟩ (.int .i64 ((m : Int) + 1)) := ⟨_, rfl⟩
  have hA2 : Aside (fun q => q = b) w1 w2 := by rw [hw2]; exact aside_set rfl (Aside.refl _ _)
  have hR2 : RdAtS L E b p (m + 1) flt0 w2 := RdAtS.poke HR1.out hA2 (fun A c h => by rw [hw2]; unfold rdC at h ⊢; exact set7_3 h)
  rw [← hw2]
  have HR2 := Lib.hid hR2
  have HA2 := Lib.hid hA2
  have HT2 := Lib.hid ((hA2.block _ hl1 hnb).trans HT1.out)
  have hl2 := row_lt HT2.out
  clear a0 a1 a2 a3 a4 a5 a6 af hR2 hA2 hw2 q0 q1 q2 q3 q4 q5 q6 q7 q8 q9 q10 q11
  obtain ⟨A2, c2, hbx, hrow, -⟩ := HR2.out
  unfold rdC at hbx
  obtain ⟨a0, a1, a2, a3, a4, a5, a6, af⟩ := row7r hbx
  have l2 := row_lt hbx
  obtain ⟨g, y, rfl, hy, hlc, lg, s0, s1, s2, s3⟩ := sign_row (p := p) hrow hpl
  obtain rfl : y = x := Option.some.inj (hy.symm.trans HX.out)
  clear hbx hrow hy
  go_cut [7] from 46 to 55 (fun s7 wx => s7 = .pointer (some ⟨w2.heap.size, 0, none⟩) ∧ wx.heap[w2.heap.size]? = some (.cells #[.int .i64 y.kind, .string y.text, .int .i64 y.num, .int .i64 y.at'] 54 (0, 0)) ∧ Below w2.heap.size w2 wx)
  case first =>
    go_region_law (fail)
    all_goals
      go_wp2_with fail
      go_meet
      exact ⟨rfl, heap_at (by simp), bel⟩
  case rest =>
    obtain ⟨rfl, hXr, hBc⟩ := hcut
    have HXr := Lib.hid hXr
    have HBc := Lib.hid hBc
    have HRc := Lib.hid (HR2.out.below hBc)
    have HTc := Lib.hid ((hBc.block _ hl2).trans HT2.out)
    have hl3 := row_lt HTc.out
    have hl3x := row_lt hXr
    have hnx3 : ¬ w2.heap.size = b := by omega
    have hnxt : ¬ w2.heap.size = w.heap.size := by omega
    clear a0 a1 a2 a3 a4 a5 a6 af s0 s1 s2 s3 hXr hBc
    obtain ⟨A3, c3, hbx, -, -⟩ := HRc.out
    unfold rdC at hbx
    obtain ⟨a0, a1, a2, a3, a4, a5, a6, af⟩ := row7r hbx
    have l3 := row_lt hbx
    clear hbx
    go_upto_region 11 with fail
    obtain ⟨w3, hw3⟩ : ∃ W, W = wc.setCell ⟨b, 1, none⟩ (.int .i64 ((p : Int) + 1)) := ⟨_, rfl⟩
    have hA3 : Aside (fun q => q = b) wc w3 := by rw [hw3]; exact aside_set rfl (Aside.refl _ _)
    have hR3 : RdAtS L E b (p + 1) (m + 1) flt0 w3 := RdAtS.poke HRc.out hA3 (fun A c h => by rw [hw3]; unfold rdC at h ⊢; exact set7_1 h)
    rw [← hw3]
    have HR3 := Lib.hid hR3
    have HT3 := Lib.hid ((hA3.block _ (row_lt HTc.out) hnb).trans HTc.out)
    have HX3 := Lib.hid ((hA3.block _ (row_lt HXr.out) hnx3).trans HXr.out)
    have HAw := Lib.hid (show Aside (fun q => q = b ∨ w.heap.size ≤ q) w w3 from (Aside.of_below HB1.out).trans ((HA2.out.mono (fun q h => .inl h)).trans ((Aside.of_below HBc.out).trans (hA3.mono (fun q h => .inl h)))))
    have hl4 := row_lt HT3.out
    have hl4x := row_lt HX3.out
    have hl4b := hR3.lt
    clear a0 a1 a2 a3 a4 a5 a6 af hR3 hA3 hw3
    obtain ⟨z0, z1, z2, z3, zf⟩ := row4 HX3.out
    obtain ⟨x0, x1, x2, x3, x4, x5, xf⟩ := row6 HT3.out
    go_wp2_with fail
    exact bodyPost_ret (v := .agg #[.int .i64 2, .bool false, .int .i64 0, .string ⟨#[]⟩, .slice none 0 0, .slice none 0 0]) (by simp only [results, Tryz.results31]; go_simp) rfl (ValE.good HR.out (GoodT.closeS (w3 := w3) ⟨[.int .i64 2, .bool false, .int .i64 0, .string ⟨#[]⟩, .slice none 0 0, .slice none 0 0], rfl, own_leaf (by unfold I64; decide) (by unfold I64; decide) (by decide), HR3.out, Aside.refl _ _⟩ HAw.out (by repeat (first | (with_reducible exact Aside.refl _ _) | ((with_reducible refine aside_set ?_ ?_); (focus (simp; done))) | (with_reducible refine aside_alloc ?_))) (by omega) hlb))
set_option maxHeartbeats 8000000 in
set_option maxRecDepth 20000 in
theorem c_vals_wide (L : List SignD) (E : Int) (b n d p m : Nat) (x : SignD) (w : World) (hL : SgOk L) (hx : L[p]? = some x) (hk : x.kind = 7) (hd8 : ¬ 8 < d) (hm3 : ¬ 300 ≤ m) (h : RdAtS L E b p m flt0 w) (hsz : 400 < x.text.size) :
    Calls Tryz.prog 31 #[.pointer (some ⟨b, 0, none⟩), .int .i64 d] w (ValE (RdAtS L E b) b L.length (10 - d) (readJ L E (n + 1) (.value d) p m) w) := by
  have HRd := Lib.hid h
  have hlb := h.lt
  have hlen := hL.len
  have hpl : p < L.length := (List.getElem?_eq_some_iff.1 hx).1
  have hz0 : (0 : Int) ≤ p := by omega
  have hz1 : (p : Int) < L.length := by omega
  have hnb : ¬ w.heap.size = b := by omega
  obtain ⟨r, hr⟩ : ∃ r, r = readJ L E (n + 1) (.value d) p m := ⟨_, rfl⟩
  obtain ⟨pl, hplc⟩ : ∃ pl, pl = placeAt L E p := ⟨_, rfl⟩
  obtain ⟨nd, hnd⟩ : ∃ k, 10 - d = k + 1 := ⟨9 - d, by omega⟩
  rw [← hr, hnd]
  have hkk : kindAt L p = 7 := (kindAt_some hx).trans hk
  rw [readJ_go hx (by rw [hkk]; decide) hd8 hm3] at hr
  have HP := Lib.hid hplc
  have HK := Lib.hid hkk
  have HX := Lib.hid hx
  have HN := Lib.hid hnd
  have htx := hL.text p x hx
  have hnx := hL.num p x hx
  unfold I64 at hnx
  obtain ⟨hnx1, hnx2⟩ := hnx
  have d8 : decide ((8 : Int) < d) = false := decide_eq_false (by omega)
  have d300 : decide ((300 : Int) < (m : Int) + 1) = false := decide_eq_false (by omega)
  have hm9 : (m : Int) ≤ 300 := by omega
  rw [if_pos hk, if_pos hsz] at hr
  have HR := Lib.hid hr
  have dsz : decide ((400 : Int) < x.text.size) = true := decide_eq_true (by omega)
  clear hsz
  clear hr h hx hkk hk hnd hd8 hm3 hplc
  go_enter Tryz.func31, Tryz.ntmps31
  go_wp2_with fail
  refine (c_rs_next L E b p m flt0 _ (by omega) (HRd.out.below bel)).mono ?_
  rintro e w1 ⟨rfl, hb1⟩
  rw [HK.out, ← HP.out]
  have HB1 := Lib.hid (bel : Below w.heap.size w w1)
  have HT1 := Lib.hid ((hb1.block w.heap.size (by simp)).trans (heap_at (w := w) (o := .cells #[.int .i64 0, .bool false, .int .i64 0, .string ⟨#[]⟩, .slice none 0 0, .slice none 0 0] 27) rfl))
  have HR1 := Lib.hid (HRd.out.below HB1.out)
  have hl1 := row_lt HT1.out
  obtain ⟨q0, q1, q2, q3, q4, q5, q6, q7, q8, q9, q10, q11⟩ := hin_lit
  obtain ⟨A, c, hbx, -, -⟩ := HR1.out
  unfold rdC at hbx
  obtain ⟨a0, a1, a2, a3, a4, a5, a6, af⟩ := row7r hbx
  have l1 := row_lt hbx
  clear hbx hb1
  go_upto_region 9 with (go_at_call 59; refine (c_spec_l01In _ _ _ _).mono ?_; rintro e w9 ⟨rfl, rfl⟩)
  obtain ⟨w2, hw2⟩ : ∃ W, W = w1.setCell ⟨b, 3, none⟩ (.int .i64 ((m : Int) + 1)) := ⟨_, rfl⟩
  have hA2 : Aside (fun q => q = b) w1 w2 := by rw [hw2]; exact aside_set rfl (Aside.refl _ _)
  have hR2 : RdAtS L E b p (m + 1) flt0 w2 := RdAtS.poke HR1.out hA2 (fun A c h => by rw [hw2]; unfold rdC at h ⊢; exact set7_3 h)
  rw [← hw2]
  have HR2 := Lib.hid hR2
  have HA2 := Lib.hid hA2
  have HT2 := Lib.hid ((hA2.block _ hl1 hnb).trans HT1.out)
  have hl2 := row_lt HT2.out
  clear a0 a1 a2 a3 a4 a5 a6 af hR2 hA2 hw2 q0 q1 q2 q3 q4 q5 q6 q7 q8 q9 q10 q11
  obtain ⟨A2, c2, hbx, hrow, -⟩ := HR2.out
  unfold rdC at hbx
  obtain ⟨a0, a1, a2, a3, a4, a5, a6, af⟩ := row7r hbx
  have l2 := row_lt hbx
  obtain ⟨g, y, rfl, hy, hlc, lg, s0, s1, s2, s3⟩ := sign_row (p := p) hrow hpl
  obtain rfl : y = x := Option.some.inj (hy.symm.trans HX.out)
  clear hbx hrow hy
  go_cut [7] from 46 to 55 (fun s7 wx => s7 = .pointer (some ⟨w2.heap.size, 0, none⟩) ∧ wx.heap[w2.heap.size]? = some (.cells #[.int .i64 y.kind, .string y.text, .int .i64 y.num, .int .i64 y.at'] 54 (0, 0)) ∧ Below w2.heap.size w2 wx)
  case first =>
    go_region_law (fail)
    all_goals
      go_wp2_with fail
      go_meet
      exact ⟨rfl, heap_at (by simp), bel⟩
  case rest =>
    obtain ⟨rfl, hXr, hBc⟩ := hcut
    have HXr := Lib.hid hXr
    have HBc := Lib.hid hBc
    have HRc := Lib.hid (HR2.out.below hBc)
    have HTc := Lib.hid ((hBc.block _ hl2).trans HT2.out)
    have hl3 := row_lt HTc.out
    have hl3x := row_lt hXr
    have hnx3 : ¬ w2.heap.size = b := by omega
    have hnxt : ¬ w2.heap.size = w.heap.size := by omega
    clear a0 a1 a2 a3 a4 a5 a6 af s0 s1 s2 s3 hXr hBc
    obtain ⟨A3, c3, hbx, -, -⟩ := HRc.out
    unfold rdC at hbx
    obtain ⟨a0, a1, a2, a3, a4, a5, a6, af⟩ := row7r hbx
    have l3 := row_lt hbx
    clear hbx
    go_upto_region 11 with fail
    obtain ⟨w3, hw3⟩ : ∃ W, W = wc.setCell ⟨b, 1, none⟩ (.int .i64 ((p : Int) + 1)) := ⟨_, rfl⟩
    have hA3 : Aside (fun q => q = b) wc w3 := by rw [hw3]; exact aside_set rfl (Aside.refl _ _)
    have hR3 : RdAtS L E b (p + 1) (m + 1) flt0 w3 := RdAtS.poke HRc.out hA3 (fun A c h => by rw [hw3]; unfold rdC at h ⊢; exact set7_1 h)
    rw [← hw3]
    have HR3 := Lib.hid hR3
    have HT3 := Lib.hid ((hA3.block _ (row_lt HTc.out) hnb).trans HTc.out)
    have HX3 := Lib.hid ((hA3.block _ (row_lt HXr.out) hnx3).trans HXr.out)
    have HAw := Lib.hid (show Aside (fun q => q = b ∨ w.heap.size ≤ q) w w3 from (Aside.of_below HB1.out).trans ((HA2.out.mono (fun q h => .inl h)).trans ((Aside.of_below HBc.out).trans (hA3.mono (fun q h => .inl h)))))
    have hl4 := row_lt HT3.out
    have hl4x := row_lt HX3.out
    have hl4b := hR3.lt
    clear a0 a1 a2 a3 a4 a5 a6 af hR3 hA3 hw3
    obtain ⟨z0, z1, z2, z3, zf⟩ := row4 HX3.out
    obtain ⟨x0, x1, x2, x3, x4, x5, xf⟩ := row6 HT3.out
    go_wp2_with fail
    refine (c_rs_bad_new L E 8 pl b (p + 1) (m + 1) flt0 _ HR3.out rfl).mono ?_
    rintro e w9 ⟨rfl, hR9, hA9⟩
    have HR9 := Lib.hid (show RdAtS L E b (p + 1) (m + 1) (badF L E 8 p) w9 by unfold badF; rw [← HP.out]; exact hR9)
    have HA9 := Lib.hid hA9
    have HT9 := Lib.hid ((hA9.block _ hl4 hnb).trans HT3.out)
    have hl9 := row_lt HT9.out
    clear x0 x1 x2 x3 x4 x5 xf z0 z1 z2 z3 zf hA9 hR9
    obtain ⟨x0, x1, x2, x3, x4, x5, xf⟩ := row6 HT9.out
    go_wp2_with fail
    exact bodyPost_ret (v := .agg #[.int .i64 0, .bool false, .int .i64 0, .string ⟨#[]⟩, .slice none 0 0, .slice none 0 0]) (by simp only [results, Tryz.results31]; go_simp) rfl (ValE.bad HR.out (BadT.closeS (w3 := w3) ⟨0, false, 0, ⟨#[]⟩, none, 0, 0, none, 0, 0, p + 1, m + 1, rfl, HR9.out, by omega, HA9.out⟩ HAw.out (by repeat (first | (with_reducible exact Aside.refl _ _) | ((with_reducible refine aside_set ?_ ?_); (focus (simp; done))) | (with_reducible refine aside_alloc ?_))) hlb))
set_option maxHeartbeats 8000000 in
set_option maxRecDepth 20000 in
theorem c_vals_list (L : List SignD) (E : Int) (b n d p m : Nat) (x : SignD) (w : World) (hL : SgOk L) (hx : L[p]? = some x) (hk : x.kind = 3) (hd8 : ¬ 8 < d) (hm3 : ¬ 300 ≤ m) (h : RdAtS L E b p m flt0 w) (hd1 : 1 ≤ d) (hn : needJ L p (.value d) ≤ n + 1) (hl : T_listS L E b n) :
    Calls Tryz.prog 31 #[.pointer (some ⟨b, 0, none⟩), .int .i64 d] w (ValE (RdAtS L E b) b L.length (10 - d) (readJ L E (n + 1) (.value d) p m) w) := by
  have HRd := Lib.hid h
  have hlb := h.lt
  have hlen := hL.len
  have hpl : p < L.length := (List.getElem?_eq_some_iff.1 hx).1
  have hz0 : (0 : Int) ≤ p := by omega
  have hz1 : (p : Int) < L.length := by omega
  have hnb : ¬ w.heap.size = b := by omega
  obtain ⟨r, hr⟩ : ∃ r, r = readJ L E (n + 1) (.value d) p m := ⟨_, rfl⟩
  obtain ⟨pl, hplc⟩ : ∃ pl, pl = placeAt L E p := ⟨_, rfl⟩
  obtain ⟨nd, hnd⟩ : ∃ k, 10 - d = k + 1 := ⟨9 - d, by omega⟩
  rw [← hr, hnd]
  have hkk : kindAt L p = 3 := (kindAt_some hx).trans hk
  rw [readJ_go hx (by rw [hkk]; decide) hd8 hm3] at hr
  have HP := Lib.hid hplc
  have HK := Lib.hid hkk
  have HX := Lib.hid hx
  have HN := Lib.hid hnd
  have htx := hL.text p x hx
  have hnx := hL.num p x hx
  unfold I64 at hnx
  obtain ⟨hnx1, hnx2⟩ := hnx
  have d8 : decide ((8 : Int) < d) = false := decide_eq_false (by omega)
  have d300 : decide ((300 : Int) < (m : Int) + 1) = false := decide_eq_false (by omega)
  have hm9 : (m : Int) ≤ 300 := by omega
  rw [if_neg (by rw [hk]; decide), if_neg (by rw [hk]; decide), if_neg (by rw [hk]; decide), if_pos hk] at hr
  rw [← hnd]
  have HR := Lib.hid hr
  have hdd : d ≤ 8 := by omega
  have hmm : m + 1 ≤ 300 := by omega
  have hpp : p + 1 ≤ L.length := by omega
  have HNe := Lib.hid (show needJ L (p + 1) (.list d []) ≤ n by unfold needJ at hn ⊢; simp only at hn ⊢; omega)
  have HL := Lib.hid hl
  clear hl hn
  clear hr h hx hkk hk hnd hd8 hm3 hplc
  go_enter Tryz.func31, Tryz.ntmps31
  go_wp2_with fail
  refine (c_rs_next L E b p m flt0 _ (by omega) (HRd.out.below bel)).mono ?_
  rintro e w1 ⟨rfl, hb1⟩
  rw [HK.out, ← HP.out]
  have HB1 := Lib.hid (bel : Below w.heap.size w w1)
  have HT1 := Lib.hid ((hb1.block w.heap.size (by simp)).trans (heap_at (w := w) (o := .cells #[.int .i64 0, .bool false, .int .i64 0, .string ⟨#[]⟩, .slice none 0 0, .slice none 0 0] 27) rfl))
  have HR1 := Lib.hid (HRd.out.below HB1.out)
  have hl1 := row_lt HT1.out
  obtain ⟨q0, q1, q2, q3, q4, q5, q6, q7, q8, q9, q10, q11⟩ := hin_lit
  obtain ⟨A, c, hbx, -, -⟩ := HR1.out
  unfold rdC at hbx
  obtain ⟨a0, a1, a2, a3, a4, a5, a6, af⟩ := row7r hbx
  have l1 := row_lt hbx
  clear hbx hb1
  go_upto_region 9 with (go_at_call 59; refine (c_spec_l01In _ _ _ _).mono ?_; rintro e w9 ⟨rfl, rfl⟩)
  obtain ⟨w2, hw2⟩ : ∃ W, W = w1.setCell ⟨b, 3, none⟩ (.int .i64 ((m : Int) + 1)) := ⟨_, rfl⟩
  have hA2 : Aside (fun q => q = b) w1 w2 := by rw [hw2]; exact aside_set rfl (Aside.refl _ _)
  have hR2 : RdAtS L E b p (m + 1) flt0 w2 := RdAtS.poke HR1.out hA2 (fun A c h => by rw [hw2]; unfold rdC at h ⊢; exact set7_3 h)
  rw [← hw2]
  have HR2 := Lib.hid hR2
  have HA2 := Lib.hid hA2
  have HT2 := Lib.hid ((hA2.block _ hl1 hnb).trans HT1.out)
  have hl2 := row_lt HT2.out
  clear a0 a1 a2 a3 a4 a5 a6 af hR2 hA2 hw2 q0 q1 q2 q3 q4 q5 q6 q7 q8 q9 q10 q11
  obtain ⟨A2, c2, hbx, hrow, -⟩ := HR2.out
  unfold rdC at hbx
  obtain ⟨a0, a1, a2, a3, a4, a5, a6, af⟩ := row7r hbx
  have l2 := row_lt hbx
  obtain ⟨g, y, rfl, hy, hlc, lg, s0, s1, s2, s3⟩ := sign_row (p := p) hrow hpl
  obtain rfl : y = x := Option.some.inj (hy.symm.trans HX.out)
  clear hbx hrow hy
  go_cut [7] from 46 to 55 (fun s7 wx => s7 = .pointer (some ⟨w2.heap.size, 0, none⟩) ∧ wx.heap[w2.heap.size]? = some (.cells #[.int .i64 y.kind, .string y.text, .int .i64 y.num, .int .i64 y.at'] 54 (0, 0)) ∧ Below w2.heap.size w2 wx)
  case first =>
    go_region_law (fail)
    all_goals
      go_wp2_with fail
      go_meet
      exact ⟨rfl, heap_at (by simp), bel⟩
  case rest =>
    obtain ⟨rfl, hXr, hBc⟩ := hcut
    have HXr := Lib.hid hXr
    have HBc := Lib.hid hBc
    have HRc := Lib.hid (HR2.out.below hBc)
    have HTc := Lib.hid ((hBc.block _ hl2).trans HT2.out)
    have hl3 := row_lt HTc.out
    have hl3x := row_lt hXr
    have hnx3 : ¬ w2.heap.size = b := by omega
    have hnxt : ¬ w2.heap.size = w.heap.size := by omega
    clear a0 a1 a2 a3 a4 a5 a6 af s0 s1 s2 s3 hXr hBc
    obtain ⟨A3, c3, hbx, -, -⟩ := HRc.out
    unfold rdC at hbx
    obtain ⟨a0, a1, a2, a3, a4, a5, a6, af⟩ := row7r hbx
    have l3 := row_lt hbx
    clear hbx
    go_upto_region 11 with fail
    obtain ⟨w3, hw3⟩ : ∃ W, W = wc.setCell ⟨b, 1, none⟩ (.int .i64 ((p : Int) + 1)) := ⟨_, rfl⟩
    have hA3 : Aside (fun q => q = b) wc w3 := by rw [hw3]; exact aside_set rfl (Aside.refl _ _)
    have hR3 : RdAtS L E b (p + 1) (m + 1) flt0 w3 := RdAtS.poke HRc.out hA3 (fun A c h => by rw [hw3]; unfold rdC at h ⊢; exact set7_1 h)
    rw [← hw3]
    have HR3 := Lib.hid hR3
    have HT3 := Lib.hid ((hA3.block _ (row_lt HTc.out) hnb).trans HTc.out)
    have HX3 := Lib.hid ((hA3.block _ (row_lt HXr.out) hnx3).trans HXr.out)
    have HAw := Lib.hid (show Aside (fun q => q = b ∨ w.heap.size ≤ q) w w3 from (Aside.of_below HB1.out).trans ((HA2.out.mono (fun q h => .inl h)).trans ((Aside.of_below HBc.out).trans (hA3.mono (fun q h => .inl h)))))
    have hl4 := row_lt HT3.out
    have hl4x := row_lt HX3.out
    have hl4b := hR3.lt
    clear a0 a1 a2 a3 a4 a5 a6 af hR3 hA3 hw3
    obtain ⟨z0, z1, z2, z3, zf⟩ := row4 HX3.out
    obtain ⟨x0, x1, x2, x3, x4, x5, xf⟩ := row6 HT3.out
    go_wp2_with fail
    refine (HL.out d (p + 1) (m + 1) _ hd1 hdd hpp hmm HNe.out HR3.out).mono ?_
    intro e w5 hv
    rcases hq : listR L E n d (p + 1) (m + 1) with f | ⟨t', q, m'⟩
    · have HQ := Lib.hid (HR.out.trans hq)
      have hv' := ValE.isBad hq hv
      have HV := Lib.hid hv'
      obtain ⟨k5, f5, n5, t5, A45, n45, c45, A55, n55, c55, p5, m5, rfl, hR5, hp5, hA5⟩ := hv'
      have HT5 := Lib.hid ((hA5.block _ hl4 hnb).trans HT3.out)
      have hl5 := row_lt HT5.out
      clear x0 x1 x2 x3 x4 x5 xf z0 z1 z2 z3 zf hv hq hR5 hA5
      obtain ⟨x0, x1, x2, x3, x4, x5, xf⟩ := row6 HT5.out
      go_wp2_with fail
      exact bodyPost_ret (v := .agg #[.int .i64 k5, .bool f5, .int .i64 n5, .string t5, .slice A45 n45 c45, .slice A55 n55 c55]) (by simp only [results, Tryz.results31]; go_simp) rfl (ValE.bad HQ.out (BadT.closeS HV.out HAw.out (by repeat (first | (with_reducible exact Aside.refl _ _) | ((with_reducible refine aside_set ?_ ?_); (focus (simp; done))) | (with_reducible refine aside_alloc ?_))) hlb))
    · have HQ := Lib.hid (HR.out.trans hq)
      have hv' := ValE.isGood hq hv
      have HV := Lib.hid hv'
      obtain ⟨cs, rfl, hO5, hR5, hA5⟩ := hv'
      obtain ⟨A4, c4, A5, c5, rfl, -⟩ := hO5.flat
      have HT5 := Lib.hid ((hA5.block _ hl4 hnb).trans HT3.out)
      have hl5 := row_lt HT5.out
      clear x0 x1 x2 x3 x4 x5 xf z0 z1 z2 z3 zf hv hq hR5 hA5 hO5
      obtain ⟨x0, x1, x2, x3, x4, x5, xf⟩ := row6 HT5.out
      go_wp2_with fail
      exact bodyPost_ret (v := .agg #[.int .i64 t'.kind, .bool t'.flag, .int .i64 t'.num, .string t'.text, .slice A4 t'.keys.length c4, .slice A5 t'.kids.length c5]) (by simp only [results, Tryz.results31]; go_simp) rfl (ValE.good HQ.out (GoodT.closeS HV.out HAw.out (by repeat (first | (with_reducible exact Aside.refl _ _) | ((with_reducible refine aside_set ?_ ?_); (focus (simp; done))) | (with_reducible refine aside_alloc ?_))) (by omega) hlb))
set_option maxHeartbeats 8000000 in
set_option maxRecDepth 20000 in
theorem c_vals_pairs (L : List SignD) (E : Int) (b n d p m : Nat) (x : SignD) (w : World) (hL : SgOk L) (hx : L[p]? = some x) (hk : x.kind = 1) (hd8 : ¬ 8 < d) (hm3 : ¬ 300 ≤ m) (h : RdAtS L E b p m flt0 w) (hd1 : 1 ≤ d) (hn : needJ L p (.value d) ≤ n + 1) (hl : T_pairsS L E b n) :
    Calls Tryz.prog 31 #[.pointer (some ⟨b, 0, none⟩), .int .i64 d] w (ValE (RdAtS L E b) b L.length (10 - d) (readJ L E (n + 1) (.value d) p m) w) := by
  have HRd := Lib.hid h
  have hlb := h.lt
  have hlen := hL.len
  have hpl : p < L.length := (List.getElem?_eq_some_iff.1 hx).1
  have hz0 : (0 : Int) ≤ p := by omega
  have hz1 : (p : Int) < L.length := by omega
  have hnb : ¬ w.heap.size = b := by omega
  obtain ⟨r, hr⟩ : ∃ r, r = readJ L E (n + 1) (.value d) p m := ⟨_, rfl⟩
  obtain ⟨pl, hplc⟩ : ∃ pl, pl = placeAt L E p := ⟨_, rfl⟩
  obtain ⟨nd, hnd⟩ : ∃ k, 10 - d = k + 1 := ⟨9 - d, by omega⟩
  rw [← hr, hnd]
  have hkk : kindAt L p = 1 := (kindAt_some hx).trans hk
  rw [readJ_go hx (by rw [hkk]; decide) hd8 hm3] at hr
  have HP := Lib.hid hplc
  have HK := Lib.hid hkk
  have HX := Lib.hid hx
  have HN := Lib.hid hnd
  have htx := hL.text p x hx
  have hnx := hL.num p x hx
  unfold I64 at hnx
  obtain ⟨hnx1, hnx2⟩ := hnx
  have d8 : decide ((8 : Int) < d) = false := decide_eq_false (by omega)
  have d300 : decide ((300 : Int) < (m : Int) + 1) = false := decide_eq_false (by omega)
  have hm9 : (m : Int) ≤ 300 := by omega
  rw [if_neg (by rw [hk]; decide), if_neg (by rw [hk]; decide), if_neg (by rw [hk]; decide), if_neg (by rw [hk]; decide), if_pos hk] at hr
  rw [← hnd]
  have HR := Lib.hid hr
  have hdd : d ≤ 8 := by omega
  have hmm : m + 1 ≤ 300 := by omega
  have hpp : p + 1 ≤ L.length := by omega
  have HNe := Lib.hid (show needJ L (p + 1) (.pairs d [] []) ≤ n by unfold needJ at hn ⊢; simp only at hn ⊢; omega)
  have HL := Lib.hid hl
  clear hl hn
  clear hr h hx hkk hk hnd hd8 hm3 hplc
  go_enter Tryz.func31, Tryz.ntmps31
  go_wp2_with fail
  refine (c_rs_next L E b p m flt0 _ (by omega) (HRd.out.below bel)).mono ?_
  rintro e w1 ⟨rfl, hb1⟩
  rw [HK.out, ← HP.out]
  have HB1 := Lib.hid (bel : Below w.heap.size w w1)
  have HT1 := Lib.hid ((hb1.block w.heap.size (by simp)).trans (heap_at (w := w) (o := .cells #[.int .i64 0, .bool false, .int .i64 0, .string ⟨#[]⟩, .slice none 0 0, .slice none 0 0] 27) rfl))
  have HR1 := Lib.hid (HRd.out.below HB1.out)
  have hl1 := row_lt HT1.out
  obtain ⟨q0, q1, q2, q3, q4, q5, q6, q7, q8, q9, q10, q11⟩ := hin_lit
  obtain ⟨A, c, hbx, -, -⟩ := HR1.out
  unfold rdC at hbx
  obtain ⟨a0, a1, a2, a3, a4, a5, a6, af⟩ := row7r hbx
  have l1 := row_lt hbx
  clear hbx hb1
  go_upto_region 9 with (go_at_call 59; refine (c_spec_l01In _ _ _ _).mono ?_; rintro e w9 ⟨rfl, rfl⟩)
  obtain ⟨w2, hw2⟩ : ∃ W, W = w1.setCell ⟨b, 3, none⟩ (.int .i64 ((m : Int) + 1)) := ⟨_, rfl⟩
  have hA2 : Aside (fun q => q = b) w1 w2 := by rw [hw2]; exact aside_set rfl (Aside.refl _ _)
  have hR2 : RdAtS L E b p (m + 1) flt0 w2 := RdAtS.poke HR1.out hA2 (fun A c h => by rw [hw2]; unfold rdC at h ⊢; exact set7_3 h)
  rw [← hw2]
  have HR2 := Lib.hid hR2
  have HA2 := Lib.hid hA2
  have HT2 := Lib.hid ((hA2.block _ hl1 hnb).trans HT1.out)
  have hl2 := row_lt HT2.out
  clear a0 a1 a2 a3 a4 a5 a6 af hR2 hA2 hw2 q0 q1 q2 q3 q4 q5 q6 q7 q8 q9 q10 q11
  obtain ⟨A2, c2, hbx, hrow, -⟩ := HR2.out
  unfold rdC at hbx
  obtain ⟨a0, a1, a2, a3, a4, a5, a6, af⟩ := row7r hbx
  have l2 := row_lt hbx
  obtain ⟨g, y, rfl, hy, hlc, lg, s0, s1, s2, s3⟩ := sign_row (p := p) hrow hpl
  obtain rfl : y = x := Option.some.inj (hy.symm.trans HX.out)
  clear hbx hrow hy
  go_cut [7] from 46 to 55 (fun s7 wx => s7 = .pointer (some ⟨w2.heap.size, 0, none⟩) ∧ wx.heap[w2.heap.size]? = some (.cells #[.int .i64 y.kind, .string y.text, .int .i64 y.num, .int .i64 y.at'] 54 (0, 0)) ∧ Below w2.heap.size w2 wx)
  case first =>
    go_region_law (fail)
    all_goals
      go_wp2_with fail
      go_meet
      exact ⟨rfl, heap_at (by simp), bel⟩
  case rest =>
    obtain ⟨rfl, hXr, hBc⟩ := hcut
    have HXr := Lib.hid hXr
    have HBc := Lib.hid hBc
    have HRc := Lib.hid (HR2.out.below hBc)
    have HTc := Lib.hid ((hBc.block _ hl2).trans HT2.out)
    have hl3 := row_lt HTc.out
    have hl3x := row_lt hXr
    have hnx3 : ¬ w2.heap.size = b := by omega
    have hnxt : ¬ w2.heap.size = w.heap.size := by omega
    clear a0 a1 a2 a3 a4 a5 a6 af s0 s1 s2 s3 hXr hBc
    obtain ⟨A3, c3, hbx, -, -⟩ := HRc.out
    unfold rdC at hbx
    obtain ⟨a0, a1, a2, a3, a4, a5, a6, af⟩ := row7r hbx
    have l3 := row_lt hbx
    clear hbx
    go_upto_region 11 with fail
    obtain ⟨w3, hw3⟩ : ∃ W, W = wc.setCell ⟨b, 1, none⟩ (.int .i64 ((p : Int) + 1)) := ⟨_, rfl⟩
    have hA3 : Aside (fun q => q = b) wc w3 := by rw [hw3]; exact aside_set rfl (Aside.refl _ _)
    have hR3 : RdAtS L E b (p + 1) (m + 1) flt0 w3 := RdAtS.poke HRc.out hA3 (fun A c h => by rw [hw3]; unfold rdC at h ⊢; exact set7_1 h)
    rw [← hw3]
    have HR3 := Lib.hid hR3
    have HT3 := Lib.hid ((hA3.block _ (row_lt HTc.out) hnb).trans HTc.out)
    have HX3 := Lib.hid ((hA3.block _ (row_lt HXr.out) hnx3).trans HXr.out)
    have HAw := Lib.hid (show Aside (fun q => q = b ∨ w.heap.size ≤ q) w w3 from (Aside.of_below HB1.out).trans ((HA2.out.mono (fun q h => .inl h)).trans ((Aside.of_below HBc.out).trans (hA3.mono (fun q h => .inl h)))))
    have hl4 := row_lt HT3.out
    have hl4x := row_lt HX3.out
    have hl4b := hR3.lt
    clear a0 a1 a2 a3 a4 a5 a6 af hR3 hA3 hw3
    obtain ⟨z0, z1, z2, z3, zf⟩ := row4 HX3.out
    obtain ⟨x0, x1, x2, x3, x4, x5, xf⟩ := row6 HT3.out
    go_wp2_with fail
    refine (HL.out d (p + 1) (m + 1) _ hd1 hdd hpp hmm HNe.out HR3.out).mono ?_
    intro e w5 hv
    rcases hq : pairsR L E n d (p + 1) (m + 1) with f | ⟨t', q, m'⟩
    · have HQ := Lib.hid (HR.out.trans hq)
      have hv' := ValE.isBad hq hv
      have HV := Lib.hid hv'
      obtain ⟨k5, f5, n5, t5, A45, n45, c45, A55, n55, c55, p5, m5, rfl, hR5, hp5, hA5⟩ := hv'
      have HT5 := Lib.hid ((hA5.block _ hl4 hnb).trans HT3.out)
      have hl5 := row_lt HT5.out
      clear x0 x1 x2 x3 x4 x5 xf z0 z1 z2 z3 zf hv hq hR5 hA5
      obtain ⟨x0, x1, x2, x3, x4, x5, xf⟩ := row6 HT5.out
      go_wp2_with fail
      exact bodyPost_ret (v := .agg #[.int .i64 k5, .bool f5, .int .i64 n5, .string t5, .slice A45 n45 c45, .slice A55 n55 c55]) (by simp only [results, Tryz.results31]; go_simp) rfl (ValE.bad HQ.out (BadT.closeS HV.out HAw.out (by repeat (first | (with_reducible exact Aside.refl _ _) | ((with_reducible refine aside_set ?_ ?_); (focus (simp; done))) | (with_reducible refine aside_alloc ?_))) hlb))
    · have HQ := Lib.hid (HR.out.trans hq)
      have hv' := ValE.isGood hq hv
      have HV := Lib.hid hv'
      obtain ⟨cs, rfl, hO5, hR5, hA5⟩ := hv'
      obtain ⟨A4, c4, A5, c5, rfl, -⟩ := hO5.flat
      have HT5 := Lib.hid ((hA5.block _ hl4 hnb).trans HT3.out)
      have hl5 := row_lt HT5.out
      clear x0 x1 x2 x3 x4 x5 xf z0 z1 z2 z3 zf hv hq hR5 hA5 hO5
      obtain ⟨x0, x1, x2, x3, x4, x5, xf⟩ := row6 HT5.out
      go_wp2_with fail
      exact bodyPost_ret (v := .agg #[.int .i64 t'.kind, .bool t'.flag, .int .i64 t'.num, .string t'.text, .slice A4 t'.keys.length c4, .slice A5 t'.kids.length c5]) (by simp only [results, Tryz.results31]; go_simp) rfl (ValE.good HQ.out (GoodT.closeS HV.out HAw.out (by repeat (first | (with_reducible exact Aside.refl _ _) | ((with_reducible refine aside_set ?_ ?_); (focus (simp; done))) | (with_reducible refine aside_alloc ?_))) (by omega) hlb))
theorem of_valS (L : List SignD) (E : Int) (b n : Nat) (hL : SgOk L) (hl : T_listS L E b n) (hp : T_pairsS L E b n) : T_valS L E b (n + 1) := by
  intro d p m w hd1 hd9 hpl hm hn h
  by_cases hk : kindAt L p = 1 ∨ kindAt L p = 3 ∨ 7 ≤ kindAt L p
  · by_cases h8 : 8 < d
    · exact c_vals_deep L E b n d p m w hL hpl h hk h8
    · by_cases h3 : 300 ≤ m
      · exact c_vals_many L E b n d p m w hL hpl h hm hk h8 h3
      · rcases hx : L[p]? with _ | x
        · rw [kindAt_none hx] at hk
          omega
        · have hkx := kindAt_some hx
          have hb := hL.kind p x hx
          rw [hkx] at hk
          rcases (show x.kind = 1 ∨ x.kind = 3 ∨ x.kind = 7 ∨ x.kind = 8 ∨ x.kind = 9 ∨ x.kind = 10 ∨ x.kind = 11 by omega) with e | e | e | e | e | e | e
          · exact c_vals_pairs L E b n d p m x w hL hx e h8 h3 h hd1 hn hp
          · exact c_vals_list L E b n d p m x w hL hx e h8 h3 h hd1 hn hl
          · by_cases hs : 400 < x.text.size
            · exact c_vals_wide L E b n d p m x w hL hx e h8 h3 h hs
            · exact c_vals_text L E b n d p m x w hL hx e h8 h3 h hs
          · exact c_vals_num L E b n d p m x w hL hx e h8 h3 h
          · exact c_vals_true L E b n d p m x w hL hx e h8 h3 h
          · exact c_vals_false L E b n d p m x w hL hx e h8 h3 h
          · exact c_vals_null L E b n d p m x w hL hx e h8 h3 h
  · exact c_vals_form L E b n d p m w hL hpl h hk
end Go.Proofs.YtffelpdefjkeaaaGreatDoor
namespace Go.Proofs.YtffelpdefjkeaaaGreatDoor
open Go.RowKit Go.Lib
theorem idx_hit {D : Type} (p : D → Bool) : ∀ (l : List D) (k : Nat) (d : D), l[k]? = some d → (l.take k).any p = false → p d = true → l.findIdx? p = some k
  | [], k, d, h, _, _ => by simp at h
  | x :: l, 0, d, h, _, hp => by simp at h; subst h; simp [List.findIdx?_cons, hp]
  | x :: l, k + 1, d, h, ha, hp => by
    simp only [List.take_succ_cons, List.any_cons, Bool.or_eq_false_iff] at ha
    simp only [List.getElem?_cons_succ] at h
    rw [List.findIdx?_cons, ha.1, idx_hit p l k d h ha.2 hp]
    rfl
theorem idx_end {D : Type} (p : D → Bool) (l : List D) (ha : (l.take l.length).any p = false) : l.findIdx? p = none := by
  rw [List.take_length] at ha
  rw [List.findIdx?_eq_none_iff]
  intro x hx
  rw [List.any_eq_false] at ha
  simpa using ha x hx
/-- The place of s among l, or -1. -/
def idxI (l : List ByteArray) (s : ByteArray) : Int := match l.findIdx? (isS s) with | some k => (k : Int) | none => -1
theorem idxI_hit (l : List ByteArray) (s : ByteArray) (k : Nat) (d : ByteArray) (h : l[k]? = some d) (ha : (l.take k).any (isS s) = false) (hp : isS s d = true) : idxI l s = k := by
  unfold idxI; rw [idx_hit _ l k d h ha hp]
theorem idxI_end (l : List ByteArray) (s : ByteArray) (ha : (l.take l.length).any (isS s) = false) : idxI l s = -1 := by
  unfold idxI; rw [idx_end _ l ha]
def keyI (d : TreeD) (key : ByteArray) : Int := if d.kind = 6 then idxI d.keys key else -1
theorem c_spec_KeyAt (n : Nat) (d : TreeD) (cs : List Value) (key : ByteArray) (w : World) (lo : Nat) (h : C_Tree n lo w.heap.size w d cs) :
    Calls Tryz.prog 97 #[.agg cs.toArray, .string key] w fun e w' => e = .returned (.int .i64 (keyI d key)) ∧ Below w.heap.size w w' := by
  obtain ⟨m, rfl⟩ := h.any
  obtain ⟨v4, v5, rfl, a0, a2, a3, a4, a5⟩ := h.out
  obtain ⟨A4, c4, rfl, hlc, hcc, hA⟩ := a4
  obtain ⟨A5, c5, rfl⟩ := a5.form
  by_cases hq : d.kind = 6
  · have Hf := Lib.hid (show keyI d key = idxI d.keys key by unfold keyI; rw [if_pos hq])
    have hx : (d.kind == 6) = true := by simp [hq]
    clear hq
    go_enter Tryz.func97, Tryz.ntmps97
    go_wp2_with fail
    go_loopw [5] (fun i wr => ∃ k : Nat, k ≤ d.keys.length ∧ i = .int .i64 k ∧ (d.keys.take k).any (isS key) = false ∧ ∃ n, wr = (w.alloc (.cells #[.int .i64 d.kind, .bool d.flag, .int .i64 d.num, .string d.text, .slice A4 d.keys.length c4, .slice A5 d.kids.length c5] 27)).drewN n) (fun i _ => d.keys.length - (intOf i).toNat)
    case atStart => exact ⟨0, Nat.zero_le _, rfl, rfl, 0, rfl⟩
    case round =>
      obtain ⟨k, hk, rfl, hall, n, rfl⟩ := hrel
      have Hall := Lib.hid hall
      clear hall
      by_cases hlt : k < d.keys.length
      · obtain ⟨b, o, rfl, -, hb2, hcell⟩ := hA (by omega)
        obtain ⟨s, hd⟩ := exists_at hlt
        obtain ⟨es, -, hcs, hC⟩ := hcell k s hd
        obtain ⟨rfl, ea0⟩ := hC
        have hc0 := hcs 0 (by omega)
        simp at hc0
        have hk0 : (0 : Int) ≤ k := by omega
        have hk1 : (k : Int) < d.keys.length := by omega
        rcases hq : (s.toList == key.toList) with _ | _
        · have Hn := Lib.hid (takeAny_no (isS key) d.keys k s hd Hall.out hq)
          clear hcs hcell hA hd
          go_wp2_with fail
          go_roundw
          case rel => exact ⟨k + 1, by omega, by go_num, Hn.out, _, rfl⟩
          case measure => simp [intOf]; omega
        · have Hh := Lib.hid (idxI_hit d.keys key k s hd Hall.out hq)
          clear hcs hcell hA hd
          go_wp2_with fail
          go_ret
          exact ⟨ret_int (by rw [Hf.out, Hh.out]), bel⟩
      · obtain rfl : k = d.keys.length := by omega
        have Hh := Lib.hid (idxI_end d.keys key Hall.out)
        clear hA
        go_wp2_with fail
        go_ret
        exact ⟨ret_int (by rw [Hf.out, Hh.out]), bel⟩
  · have Hf := Lib.hid (show keyI d key = -1 by unfold keyI; rw [if_neg hq])
    have hx : (d.kind == 6) = false := by simp [hq]
    clear hA
    go_enter Tryz.func97, Tryz.ntmps97
    go_wp2_with fail
    go_loopw [5] (fun i wr => i = .int .i64 0 ∧ wr = w.alloc (.cells #[.int .i64 d.kind, .bool d.flag, .int .i64 d.num, .string d.text, .slice A4 d.keys.length c4, .slice A5 d.kids.length c5] 27)) (fun _ _ => 0)
    case atStart => exact ⟨rfl, rfl⟩
    case round =>
      obtain ⟨rfl, rfl⟩ := hrel
      by_cases hl : (0 : Int) < d.keys.length
      · go_wp2_with fail
        go_ret
        exact ⟨ret_int Hf.out.symm, bel⟩
      · go_wp2_with fail
        go_ret
        exact ⟨ret_int Hf.out.symm, bel⟩
end Go.Proofs.YtffelpdefjkeaaaGreatDoor
namespace Go.Proofs.YtffelpdefjkeaaaGreatDoor
open Go.RowKit
theorem GrowK.empty {n base B : Nat} {w : World} (hB : B = w.heap.size) (hb : base ≤ w.heap.size) : GrowK n base (w.alloc (.cells #[] 27)).heap.size (w.alloc (.cells #[] 27)) [] (.slice (some ⟨B, 0, none⟩) 0 0) :=
  ⟨[], fun _ _ => False, rfl, fun _ h => (by cases h), own_empty hB hb, fun g h => (by simp [Value.ownBlock] at h; simp; omega), fun _ _ h => h.elim, fun _ _ _ h => h.elim, fun i d es h => (by simp at h)⟩
end Go.Proofs.YtffelpdefjkeaaaGreatDoor
