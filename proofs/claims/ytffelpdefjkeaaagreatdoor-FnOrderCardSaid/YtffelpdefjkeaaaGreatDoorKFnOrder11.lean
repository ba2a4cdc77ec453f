/- Written by wip/tools/pack.py: the texts that FnOrder needs, without what it does not need. No conditions. -/
import Derived.Test.YtffelpdefjkeaaaGreatDoorKFnOrder10
import Derived.Test.YtffelpdefjkeaaaGreatDoorKFnOrder9
import Derived.Test.YtffelpdefjkeaaaGreatDoorKFnOrder8
import Derived.Lib.LazyBuf
import Derived.Shelf.Lays2
import Derived.Shelf.Spec.SearchS
import Derived.Shelf.Spec.SlicesInsert
import Derived.Shelf.Spec.SlicesInsertGrow
import Derived.Test.YtffelpdefjkeaaaGreatDoorKFnOrder1
import Derived.Test.YtffelpdefjkeaaaGreatDoorKFnOrder4
namespace Go.Proofs.YtffelpdefjkeaaaGreatDoor
open Go.RowKit Go.Lib
set_option maxHeartbeats 8000000 in
set_option maxRecDepth 20000 in
theorem c_val_wide (L : List SignD) (E : Int) (b n d p m : Nat) (x : SignD) (w : World) (hL : SgOk L) (hx : L[p]? = some x) (hk : x.kind = 7) (hd8 : ¬ 8 < d) (hm3 : ¬ 300 ≤ m) (h : RdAt L E b p m flt0 w) (hsz : 400 < x.text.size) :
    Calls Tryz.prog 34 #[.pointer (some ⟨b, 0, none⟩), .int .i64 d] w (ValE (RdAt L E b) b L.length (10 - d) (readJ L E (n + 1) (.value d) p m) w) := by
  have HRd := Lib.hid h
  have hlb := h.lt
  have hlen := hL.len
  have hpl : p < L.length := (List.getElem?_eq_some_iff.1 hx).1
  have hz0 : (0 : Int) ≤ p := by omega
  have hz1 : (p : Int) < L.length := by omega
  have hnb : ¬ w.heap.size = b := by omega
  obtain ⟨r, hr⟩ : ∃ r, r = readJ L E (n + 1) (.value d) p m := ⟨_, rfl⟩
  obtain ⟨nd, hnd⟩ : ∃ k, 10 - d = k + 1 := ⟨9 - d, by omega⟩
  rw [← hr, hnd]
  have hkk : kindAt L p = 7 := (kindAt_some hx).trans hk
  rw [readJ_go hx (by rw [hkk]; decide) hd8 hm3] at hr
  have HK := Lib.hid hkk
  have HX := Lib.hid hx
  have HN := Lib.hid hnd
  have htx := hL.text p x hx
  have hnx := hL.num p x hx
  unfold I64 at hnx
  obtain ⟨hnx1, hnx2⟩ := hnx
  have d8 : decide ((8 : Int) < d) = false := decide_eq_false (by omega)
  have d300 : decide ((300 : Int) ≤ m) = false := decide_eq_false (by omega)
  have hm9 : (m : Int) ≤ 300 := by omega
  rw [if_pos hk, if_pos hsz] at hr
  have HR := Lib.hid hr
  have dsz : decide ((400 : Int) < x.text.size) = true := decide_eq_true (by omega)
  clear hsz
  clear hr h hx hkk hk hnd hd8 hm3
  go_enter Tryz.func34, Tryz.ntmps34
  go_wp2_with fail
  refine (c_rd_kind L E b p m flt0 _ (by omega) (HRd.out.below bel)).mono ?_
  rintro e w1 ⟨rfl, hb1⟩
  rw [HK.out]
  have HB1 := Lib.hid (bel : Below w.heap.size w w1)
  have HT1 := Lib.hid ((hb1.block w.heap.size (by simp)).trans (heap_at (w := w) (o := .cells #[.int .i64 0, .bool false, .int .i64 0, .string ⟨#[]⟩, .slice none 0 0, .slice none 0 0] 27) rfl))
  have HR1 := Lib.hid (HRd.out.below HB1.out)
  have hl1 := row_lt HT1.out
  obtain ⟨A, c, hbx, -, -⟩ := HR1.out
  unfold rdC at hbx
  obtain ⟨a0, a1, a2, a3, a4, a5, a6, af⟩ := row7r hbx
  have l1 := row_lt hbx
  have a4' : w1.cell? ⟨b, 4, none⟩ = some (.int .i64 0) := a4
  clear hbx hb1 a4
  go_upto_region 11 with fail
  obtain ⟨w2, hw2⟩ : ∃ W, W = w1.setCell ⟨b, 3, none⟩ (.int .i64 ((m : Int) + 1)) := ⟨_, rfl⟩
  have hA2 : Aside (fun q => q = b) w1 w2 := by rw [hw2]; exact aside_set rfl (Aside.refl _ _)
  have hR2 : RdAt L E b p (m + 1) flt0 w2 := RdAt.poke HR1.out hA2 (fun A c h => by rw [hw2]; unfold rdC at h ⊢; exact set7_3 h)
  rw [← hw2]
  have HR2 := Lib.hid hR2
  have HA2 := Lib.hid hA2
  have HT2 := Lib.hid ((hA2.block _ hl1 hnb).trans HT1.out)
  have hl2 := row_lt HT2.out
  clear a0 a1 a2 a3 a4' a5 a6 af hR2 hA2 hw2
  obtain ⟨A2, c2, hbx, hrow, -⟩ := HR2.out
  unfold rdC at hbx
  obtain ⟨a0, a1, a2, a3, a4, a5, a6, af⟩ := row7r hbx
  have l2 := row_lt hbx
  obtain ⟨g, y, rfl, hy, hlc, lg, s0, s1, s2, s3⟩ := sign_row (p := p) hrow hpl
  obtain rfl : y = x := Option.some.inj (hy.symm.trans HX.out)
  clear hbx hrow hy
  go_cut [6] from 49 to 58 (fun s6 wx => s6 = .pointer (some ⟨w2.heap.size, 0, none⟩) ∧ wx.heap[w2.heap.size]? = some (.cells #[.int .i64 y.kind, .string y.text, .int .i64 y.num, .int .i64 y.at'] 54 (0, 0)) ∧ Below w2.heap.size w2 wx)
  case first =>
    go_region_law (fail)
    all_goals
      go_wp2_with fail
      go_meet
      exact ⟨rfl, heap_at (by simp), bel⟩
  case rest =>
    obtain ⟨rfl, hXr, hBc⟩ := hcut
    have HXr := Lib.hid hXr
    have HBc := Lib.hid hBc
    have HRc := Lib.hid (HR2.out.below hBc)
    have HTc := Lib.hid ((hBc.block _ hl2).trans HT2.out)
    have hl3 := row_lt HTc.out
    have hl3x := row_lt hXr
    have hnx3 : ¬ w2.heap.size = b := by omega
    have hnxt : ¬ w2.heap.size = w.heap.size := by omega
    clear a0 a1 a2 a3 a4 a5 a6 af s0 s1 s2 s3 hXr hBc
    obtain ⟨A3, c3, hbx, -, -⟩ := HRc.out
    unfold rdC at hbx
    obtain ⟨a0, a1, a2, a3, a4, a5, a6, af⟩ := row7r hbx
    have l3 := row_lt hbx
    obtain ⟨y0, y1, y2, y3, yf⟩ := row4 HXr.out
    clear hbx
    go_wp2_with fail
    refine (c_rd_fail_new L E 8 b p (m + 1) flt0 _ (by omega) HRc.out rfl).mono ?_
    rintro e w8 ⟨rfl, hR8, hA8⟩
    have HR8 := Lib.hid hR8
    have HA8 := Lib.hid hA8
    have HT8 := Lib.hid ((hA8.block _ hl3 hnb).trans HTc.out)
    have HX8 := Lib.hid ((hA8.block _ hl3x hnx3).trans HXr.out)
    clear a0 a1 a2 a3 a4 a5 a6 af y0 y1 y2 y3 yf hR8 hA8
    obtain ⟨A8, c8, hbx, -, -⟩ := HR8.out
    unfold rdC at hbx
    obtain ⟨a0, a1, a2, a3, a4, a5, a6, af⟩ := row7r hbx
    obtain ⟨y0, y1, y2, y3, yf⟩ := row4 HX8.out
    have l8 := row_lt hbx
    have l8x := row_lt HX8.out
    clear hbx
    go_upto_region 15 with fail
    obtain ⟨w3, hw3⟩ : ∃ W, W = w8.setCell ⟨b, 1, none⟩ (.int .i64 ((p : Int) + 1)) := ⟨_, rfl⟩
    have hA3 : Aside (fun q => q = b) w8 w3 := by rw [hw3]; exact aside_set rfl (Aside.refl _ _)
    have hR3 : RdAt L E b (p + 1) (m + 1) (badF L E 8 p) w3 := RdAt.poke HR8.out hA3 (fun A c h => by rw [hw3]; unfold rdC at h ⊢; exact set7_1 h)
    rw [← hw3]
    have HR3 := Lib.hid hR3
    have HT3 := Lib.hid ((hA3.block _ (row_lt HT8.out) hnb).trans HT8.out)
    have HX3 := Lib.hid ((hA3.block _ (row_lt HX8.out) hnx3).trans HX8.out)
    have HAw := Lib.hid (show Aside (fun q => q = b ∨ w.heap.size ≤ q) w w3 from (Aside.of_below HB1.out).trans ((HA2.out.mono (fun q h => .inl h)).trans ((Aside.of_below HBc.out).trans ((HA8.out.mono (fun q h => .inl h)).trans (hA3.mono (fun q h => .inl h))))))
    have hl4 := row_lt HT3.out
    have hl4x := row_lt HX3.out
    have hl4b := hR3.lt
    clear a0 a1 a2 a3 a4 a5 a6 af y0 y1 y2 y3 yf hR3 hA3 hw3
    obtain ⟨z0, z1, z2, z3, zf⟩ := row4 HX3.out
    obtain ⟨x0, x1, x2, x3, x4, x5, xf⟩ := row6 HT3.out
    go_wp2_with fail
    refine (c_rd_TextTree y.text _).mono ?_
    rintro e w9 ⟨rfl, hb9⟩
    have HB9 := Lib.hid hb9
    have HT9 := Lib.hid ((hb9.block _ hl4).trans HT3.out)
    have hl9 := row_lt HT9.out
    clear x0 x1 x2 x3 x4 x5 xf z0 z1 z2 z3 zf hb9
    obtain ⟨x0, x1, x2, x3, x4, x5, xf⟩ := row6 HT9.out
    go_wp2_with fail
    exact bodyPost_ret (v := .agg #[.int .i64 4, .bool false, .int .i64 0, .string y.text, .slice none 0 0, .slice none 0 0]) (by simp only [results, Tryz.results34]; go_simp) rfl (ValE.bad HR.out (BadT.close (w3 := w3) ⟨4, false, 0, y.text, none, 0, 0, none, 0, 0, p + 1, m + 1, rfl, HR3.out.below HB9.out, by omega, Aside.of_below HB9.out⟩ HAw.out (by repeat (first | (with_reducible exact Aside.refl _ _) | ((with_reducible refine aside_set ?_ ?_); (focus (simp; done))) | (with_reducible refine aside_alloc ?_))) hlb))
set_option maxHeartbeats 8000000 in
set_option maxRecDepth 20000 in
theorem c_val_list (L : List SignD) (E : Int) (b n d p m : Nat) (x : SignD) (w : World) (hL : SgOk L) (hx : L[p]? = some x) (hk : x.kind = 3) (hd8 : ¬ 8 < d) (hm3 : ¬ 300 ≤ m) (h : RdAt L E b p m flt0 w) (hd1 : 1 ≤ d) (hn : needJ L p (.value d) ≤ n + 1) (hl : T_listI L E b n) :
    Calls Tryz.prog 34 #[.pointer (some ⟨b, 0, none⟩), .int .i64 d] w (ValE (RdAt L E b) b L.length (10 - d) (readJ L E (n + 1) (.value d) p m) w) := by
  have HRd := Lib.hid h
  have hlb := h.lt
  have hlen := hL.len
  have hpl : p < L.length := (List.getElem?_eq_some_iff.1 hx).1
  have hz0 : (0 : Int) ≤ p := by omega
  have hz1 : (p : Int) < L.length := by omega
  have hnb : ¬ w.heap.size = b := by omega
  obtain ⟨r, hr⟩ : ∃ r, r = readJ L E (n + 1) (.value d) p m := ⟨_, rfl⟩
  obtain ⟨nd, hnd⟩ : ∃ k, 10 - d = k + 1 := ⟨9 - d, by omega⟩
  rw [← hr, hnd]
  have hkk : kindAt L p = 3 := (kindAt_some hx).trans hk
  rw [readJ_go hx (by rw [hkk]; decide) hd8 hm3] at hr
  have HK := Lib.hid hkk
  have HX := Lib.hid hx
  have HN := Lib.hid hnd
  have htx := hL.text p x hx
  have hnx := hL.num p x hx
  unfold I64 at hnx
  obtain ⟨hnx1, hnx2⟩ := hnx
  have d8 : decide ((8 : Int) < d) = false := decide_eq_false (by omega)
  have d300 : decide ((300 : Int) ≤ m) = false := decide_eq_false (by omega)
  have hm9 : (m : Int) ≤ 300 := by omega
  rw [if_neg (by rw [hk]; decide), if_neg (by rw [hk]; decide), if_neg (by rw [hk]; decide), if_pos hk] at hr
  rw [← hnd]
  have HR := Lib.hid hr
  have hdd : d ≤ 8 := by omega
  have hmm : m + 1 ≤ 300 := by omega
  have hpp : p + 1 ≤ L.length := by omega
  have HNe := Lib.hid (show needJ L (p + 1) (.list d []) ≤ n by unfold needJ at hn ⊢; simp only at hn ⊢; omega)
  have HL := Lib.hid hl
  clear hl hn
  clear hr h hx hkk hk hnd hd8 hm3
  go_enter Tryz.func34, Tryz.ntmps34
  go_wp2_with fail
  refine (c_rd_kind L E b p m flt0 _ (by omega) (HRd.out.below bel)).mono ?_
  rintro e w1 ⟨rfl, hb1⟩
  rw [HK.out]
  have HB1 := Lib.hid (bel : Below w.heap.size w w1)
  have HT1 := Lib.hid ((hb1.block w.heap.size (by simp)).trans (heap_at (w := w) (o := .cells #[.int .i64 0, .bool false, .int .i64 0, .string ⟨#[]⟩, .slice none 0 0, .slice none 0 0] 27) rfl))
  have HR1 := Lib.hid (HRd.out.below HB1.out)
  have hl1 := row_lt HT1.out
  obtain ⟨A, c, hbx, -, -⟩ := HR1.out
  unfold rdC at hbx
  obtain ⟨a0, a1, a2, a3, a4, a5, a6, af⟩ := row7r hbx
  have l1 := row_lt hbx
  have a4' : w1.cell? ⟨b, 4, none⟩ = some (.int .i64 0) := a4
  clear hbx hb1 a4
  go_upto_region 11 with fail
  obtain ⟨w2, hw2⟩ : ∃ W, W = w1.setCell ⟨b, 3, none⟩ (.int .i64 ((m : Int) + 1)) := ⟨_, rfl⟩
  have hA2 : Aside (fun q => q = b) w1 w2 := by rw [hw2]; exact aside_set rfl (Aside.refl _ _)
  have hR2 : RdAt L E b p (m + 1) flt0 w2 := RdAt.poke HR1.out hA2 (fun A c h => by rw [hw2]; unfold rdC at h ⊢; exact set7_3 h)
  rw [← hw2]
  have HR2 := Lib.hid hR2
  have HA2 := Lib.hid hA2
  have HT2 := Lib.hid ((hA2.block _ hl1 hnb).trans HT1.out)
  have hl2 := row_lt HT2.out
  clear a0 a1 a2 a3 a4' a5 a6 af hR2 hA2 hw2
  obtain ⟨A2, c2, hbx, hrow, -⟩ := HR2.out
  unfold rdC at hbx
  obtain ⟨a0, a1, a2, a3, a4, a5, a6, af⟩ := row7r hbx
  have l2 := row_lt hbx
  obtain ⟨g, y, rfl, hy, hlc, lg, s0, s1, s2, s3⟩ := sign_row (p := p) hrow hpl
  obtain rfl : y = x := Option.some.inj (hy.symm.trans HX.out)
  clear hbx hrow hy
  go_cut [6] from 49 to 58 (fun s6 wx => s6 = .pointer (some ⟨w2.heap.size, 0, none⟩) ∧ wx.heap[w2.heap.size]? = some (.cells #[.int .i64 y.kind, .string y.text, .int .i64 y.num, .int .i64 y.at'] 54 (0, 0)) ∧ Below w2.heap.size w2 wx)
  case first =>
    go_region_law (fail)
    all_goals
      go_wp2_with fail
      go_meet
      exact ⟨rfl, heap_at (by simp), bel⟩
  case rest =>
    obtain ⟨rfl, hXr, hBc⟩ := hcut
    have HXr := Lib.hid hXr
    have HBc := Lib.hid hBc
    have HRc := Lib.hid (HR2.out.below hBc)
    have HTc := Lib.hid ((hBc.block _ hl2).trans HT2.out)
    have hl3 := row_lt HTc.out
    have hl3x := row_lt hXr
    have hnx3 : ¬ w2.heap.size = b := by omega
    have hnxt : ¬ w2.heap.size = w.heap.size := by omega
    clear a0 a1 a2 a3 a4 a5 a6 af s0 s1 s2 s3 hXr hBc
    obtain ⟨A3, c3, hbx, -, -⟩ := HRc.out
    unfold rdC at hbx
    obtain ⟨a0, a1, a2, a3, a4, a5, a6, af⟩ := row7r hbx
    have l3 := row_lt hbx
    obtain ⟨y0, y1, y2, y3, yf⟩ := row4 HXr.out
    clear hbx
    go_upto_region 15 with fail
    obtain ⟨w3, hw3⟩ : ∃ W, W = wc.setCell ⟨b, 1, none⟩ (.int .i64 ((p : Int) + 1)) := ⟨_, rfl⟩
    have hA3 : Aside (fun q => q = b) wc w3 := by rw [hw3]; exact aside_set rfl (Aside.refl _ _)
    have hR3 : RdAt L E b (p + 1) (m + 1) flt0 w3 := RdAt.poke HRc.out hA3 (fun A c h => by rw [hw3]; unfold rdC at h ⊢; exact set7_1 h)
    rw [← hw3]
    have HR3 := Lib.hid hR3
    have HT3 := Lib.hid ((hA3.block _ (row_lt HTc.out) hnb).trans HTc.out)
    have HX3 := Lib.hid ((hA3.block _ (row_lt HXr.out) hnx3).trans HXr.out)
    have HAw := Lib.hid (show Aside (fun q => q = b ∨ w.heap.size ≤ q) w w3 from (Aside.of_below HB1.out).trans ((HA2.out.mono (fun q h => .inl h)).trans ((Aside.of_below HBc.out).trans ((Aside.refl _ wc).trans (hA3.mono (fun q h => .inl h))))))
    have hl4 := row_lt HT3.out
    have hl4x := row_lt HX3.out
    have hl4b := hR3.lt
    clear a0 a1 a2 a3 a4 a5 a6 af y0 y1 y2 y3 yf hR3 hA3 hw3
    obtain ⟨z0, z1, z2, z3, zf⟩ := row4 HX3.out
    obtain ⟨x0, x1, x2, x3, x4, x5, xf⟩ := row6 HT3.out
    go_wp2_with fail
    refine (HL.out d (p + 1) (m + 1) _ hd1 hdd hpp hmm HNe.out HR3.out).mono ?_
    intro e w5 hv
    rcases hq : listR L E n d (p + 1) (m + 1) with f | ⟨t', q, m'⟩
    · have HQ := Lib.hid (HR.out.trans hq)
      have hv' := ValE.isBad hq hv
      have HV := Lib.hid hv'
      obtain ⟨k5, f5, n5, t5, A45, n45, c45, A55, n55, c55, p5, m5, rfl, hR5, hp5, hA5⟩ := hv'
      have HT5 := Lib.hid ((hA5.block _ hl4 hnb).trans HT3.out)
      have hl5 := row_lt HT5.out
      clear x0 x1 x2 x3 x4 x5 xf z0 z1 z2 z3 zf hv hq hR5 hA5
      obtain ⟨x0, x1, x2, x3, x4, x5, xf⟩ := row6 HT5.out
      go_wp2_with fail
      exact bodyPost_ret (v := .agg #[.int .i64 k5, .bool f5, .int .i64 n5, .string t5, .slice A45 n45 c45, .slice A55 n55 c55]) (by simp only [results, Tryz.results34]; go_simp) rfl (ValE.bad HQ.out (BadT.close HV.out HAw.out (by repeat (first | (with_reducible exact Aside.refl _ _) | ((with_reducible refine aside_set ?_ ?_); (focus (simp; done))) | (with_reducible refine aside_alloc ?_))) hlb))
    · have HQ := Lib.hid (HR.out.trans hq)
      have hv' := ValE.isGood hq hv
      have HV := Lib.hid hv'
      obtain ⟨cs, rfl, hO5, hR5, hA5⟩ := hv'
      obtain ⟨A4, c4, A5, c5, rfl, -⟩ := hO5.flat
      have HT5 := Lib.hid ((hA5.block _ hl4 hnb).trans HT3.out)
      have hl5 := row_lt HT5.out
      clear x0 x1 x2 x3 x4 x5 xf z0 z1 z2 z3 zf hv hq hR5 hA5 hO5
      obtain ⟨x0, x1, x2, x3, x4, x5, xf⟩ := row6 HT5.out
      go_wp2_with fail
      exact bodyPost_ret (v := .agg #[.int .i64 t'.kind, .bool t'.flag, .int .i64 t'.num, .string t'.text, .slice A4 t'.keys.length c4, .slice A5 t'.kids.length c5]) (by simp only [results, Tryz.results34]; go_simp) rfl (ValE.good HQ.out (GoodT.close HV.out HAw.out (by repeat (first | (with_reducible exact Aside.refl _ _) | ((with_reducible refine aside_set ?_ ?_); (focus (simp; done))) | (with_reducible refine aside_alloc ?_))) (by omega) hlb))
set_option maxHeartbeats 8000000 in
set_option maxRecDepth 20000 in
theorem c_val_pairs (L : List SignD) (E : Int) (b n d p m : Nat) (x : SignD) (w : World) (hL : SgOk L) (hx : L[p]? = some x) (hk : x.kind = 1) (hd8 : ¬ 8 < d) (hm3 : ¬ 300 ≤ m) (h : RdAt L E b p m flt0 w) (hd1 : 1 ≤ d) (hn : needJ L p (.value d) ≤ n + 1) (hl : T_pairsI L E b n) :
    Calls Tryz.prog 34 #[.pointer (some ⟨b, 0, none⟩), .int .i64 d] w (ValE (RdAt L E b) b L.length (10 - d) (readJ L E (n + 1) (.value d) p m) w) := by
  have HRd := Lib.hid h
  have hlb := h.lt
  have hlen := hL.len
  have hpl : p < L.length := (List.getElem?_eq_some_iff.1 hx).1
  have hz0 : (0 : Int) ≤ p := by omega
  have hz1 : (p : Int) < L.length := by omega
  have hnb : ¬ w.heap.size = b := by omega
  obtain ⟨r, hr⟩ : ∃ r, r = readJ L E (n + 1) (.value d) p m := ⟨_, rfl⟩
  obtain ⟨nd, hnd⟩ : ∃ k, 10 - d = k + 1 := ⟨9 - d, by omega⟩
  rw [← hr, hnd]
  have hkk : kindAt L p = 1 := (kindAt_some hx).trans hk
  rw [readJ_go hx (by rw [hkk]; decide) hd8 hm3] at hr
  have HK := Lib.hid hkk
  have HX := Lib.hid hx
  have HN := Lib.hid hnd
  have htx := hL.text p x hx
  have hnx := hL.num p x hx
  unfold I64 at hnx
  obtain ⟨hnx1, hnx2⟩ := hnx
  have d8 : decide ((8 : Int) < d) = false := decide_eq_false (by omega)
  have d300 : decide ((300 : Int) ≤ m) = false := decide_eq_false (by omega)
  have hm9 : (m : Int) ≤ 300 := by omega
  rw [if_neg (by rw [hk]; decide), if_neg (by rw [hk]; decide), if_neg (by rw [hk]; decide), if_neg (by rw [hk]; decide), if_pos hk] at hr
  rw [← hnd]
  have HR := Lib.hid hr
  have hdd : d ≤ 8 := by omega
  have hmm : m + 1 ≤ 300 := by omega
  have hpp : p + 1 ≤ L.length := by omega
  have HNe := Lib.hid (show needJ L (p + 1) (.pairs d [] []) ≤ n by unfold needJ at hn ⊢; simp only at hn ⊢; omega)
  have HL := Lib.hid hl
  clear hl hn
  clear hr h hx hkk hk hnd hd8 hm3
  go_enter Tryz.func34, Tryz.ntmps34
  go_wp2_with fail
  refine (c_rd_kind L E b p m flt0 _ (by omega) (HRd.out.below bel)).mono ?_
  rintro e w1 ⟨rfl, hb1⟩
  rw [HK.out]
  have HB1 := Lib.hid (bel : Below w.heap.size w w1)
  have HT1 := Lib.hid ((hb1.block w.heap.size (by simp)).trans (heap_at (w := w) (o := .cells #[.int .i64 0, .bool false, .int .i64 0, .string ⟨#[]⟩, .slice none 0 0, .slice none 0 0] 27) rfl))
  have HR1 := Lib.hid (HRd.out.below HB1.out)
  have hl1 := row_lt HT1.out
  obtain ⟨A, c, hbx, -, -⟩ := HR1.out
  unfold rdC at hbx
  obtain ⟨a0, a1, a2, a3, a4, a5, a6, af⟩ := row7r hbx
  have l1 := row_lt hbx
  have a4' : w1.cell? ⟨b, 4, none⟩ = some (.int .i64 0) := a4
  clear hbx hb1 a4
  go_upto_region 11 with fail
  obtain ⟨w2, hw2⟩ : ∃ W, W = w1.setCell ⟨b, 3, none⟩ (.int .i64 ((m : Int) + 1)) := ⟨_, rfl⟩
  have hA2 : Aside (fun q => q = b) w1 w2 := by rw [hw2]; exact aside_set rfl (Aside.refl _ _)
  have hR2 : RdAt L E b p (m + 1) flt0 w2 := RdAt.poke HR1.out hA2 (fun A c h => by rw [hw2]; unfold rdC at h ⊢; exact set7_3 h)
  rw [← hw2]
  have HR2 := Lib.hid hR2
  have HA2 := Lib.hid hA2
  have HT2 := Lib.hid ((hA2.block _ hl1 hnb).trans HT1.out)
  have hl2 := row_lt HT2.out
  clear a0 a1 a2 a3 a4' a5 a6 af hR2 hA2 hw2
  obtain ⟨A2, c2, hbx, hrow, -⟩ := HR2.out
  unfold rdC at hbx
  obtain ⟨a0, a1, a2, a3, a4, a5, a6, af⟩ := row7r hbx
  have l2 := row_lt hbx
  obtain ⟨g, y, rfl, hy, hlc, lg, s0, s1, s2, s3⟩ := sign_row (p := p) hrow hpl
  obtain rfl : y = x := Option.some.inj (hy.symm.trans HX.out)
  clear hbx hrow hy
  go_cut [6] from 49 to 58 (fun s6 wx => s6 = .pointer (some ⟨w2.heap.size, 0, none⟩) ∧ wx.heap[w2.heap.size]? = some (.cells #[.int .i64 y.kind, .string y.text, .int .i64 y.num, .int .i64 y.at'] 54 (0, 0)) ∧ Below w2.heap.size w2 wx)
  case first =>
    go_region_law (fail)
    all_goals
      go_wp2_with fail
      go_meet
      exact ⟨rfl, heap_at (by simp), bel⟩
  case rest =>
    obtain ⟨rfl, hXr, hBc⟩ := hcut
    have HXr := Lib.hid hXr
    have HBc := Lib.hid hBc
    have HRc := Lib.hid (HR2.out.below hBc)
    have HTc := Lib.hid ((hBc.block _ hl2).trans HT2.out)
    have hl3 := row_lt HTc.out
    have hl3x := row_lt hXr
    have hnx3 : ¬ w2.heap.size = b := by omega
    have hnxt : ¬ w2.heap.size = w.heap.size := by omega
    clear a0 a1 a2 a3 a4 a5 a6 af s0 s1 s2 s3 hXr hBc
    obtain ⟨A3, c3, hbx, -, -⟩ := HRc.out
    unfold rdC at hbx
    obtain ⟨a0, a1, a2, a3, a4, a5, a6, af⟩ := row7r hbx
    have l3 := row_lt hbx
    obtain ⟨y0, y1, y2, y3, yf⟩ := row4 HXr.out
    clear hbx
    go_upto_region 15 with fail
    obtain ⟨w3, hw3⟩ : ∃ W, W = wc.setCell ⟨b, 1, none⟩ (.int .i64 ((p : Int) + 1)) := ⟨_, rfl⟩
    have hA3 : Aside (fun q => q = b) wc w3 := by rw [hw3]; exact aside_set rfl (Aside.refl _ _)
    have hR3 : RdAt L E b (p + 1) (m + 1) flt0 w3 := RdAt.poke HRc.out hA3 (fun A c h => by rw [hw3]; unfold rdC at h ⊢; exact set7_1 h)
    rw [← hw3]
    have HR3 := Lib.hid hR3
    have HT3 := Lib.hid ((hA3.block _ (row_lt HTc.out) hnb).trans HTc.out)
    have HX3 := Lib.hid ((hA3.block _ (row_lt HXr.out) hnx3).trans HXr.out)
    have HAw := Lib.hid (show Aside (fun q => q = b ∨ w.heap.size ≤ q) w w3 from (Aside.of_below HB1.out).trans ((HA2.out.mono (fun q h => .inl h)).trans ((Aside.of_below HBc.out).trans ((Aside.refl _ wc).trans (hA3.mono (fun q h => .inl h))))))
    have hl4 := row_lt HT3.out
    have hl4x := row_lt HX3.out
    have hl4b := hR3.lt
    clear a0 a1 a2 a3 a4 a5 a6 af y0 y1 y2 y3 yf hR3 hA3 hw3
    obtain ⟨z0, z1, z2, z3, zf⟩ := row4 HX3.out
    obtain ⟨x0, x1, x2, x3, x4, x5, xf⟩ := row6 HT3.out
    go_wp2_with fail
    refine (HL.out d (p + 1) (m + 1) _ hd1 hdd hpp hmm HNe.out HR3.out).mono ?_
    intro e w5 hv
    rcases hq : pairsR L E n d (p + 1) (m + 1) with f | ⟨t', q, m'⟩
    · have HQ := Lib.hid (HR.out.trans hq)
      have hv' := ValE.isBad hq hv
      have HV := Lib.hid hv'
      obtain ⟨k5, f5, n5, t5, A45, n45, c45, A55, n55, c55, p5, m5, rfl, hR5, hp5, hA5⟩ := hv'
      have HT5 := Lib.hid ((hA5.block _ hl4 hnb).trans HT3.out)
      have hl5 := row_lt HT5.out
      clear x0 x1 x2 x3 x4 x5 xf z0 z1 z2 z3 zf hv hq hR5 hA5
      obtain ⟨x0, x1, x2, x3, x4, x5, xf⟩ := row6 HT5.out
      go_wp2_with fail
      exact bodyPost_ret (v := .agg #[.int .i64 k5, .bool f5, .int .i64 n5, .string t5, .slice A45 n45 c45, .slice A55 n55 c55]) (by simp only [results, Tryz.results34]; go_simp) rfl (ValE.bad HQ.out (BadT.close HV.out HAw.out (by repeat (first | (with_reducible exact Aside.refl _ _) | ((with_reducible refine aside_set ?_ ?_); (focus (simp; done))) | (with_reducible refine aside_alloc ?_))) hlb))
    · have HQ := Lib.hid (HR.out.trans hq)
      have hv' := ValE.isGood hq hv
      have HV := Lib.hid hv'
      obtain ⟨cs, rfl, hO5, hR5, hA5⟩ := hv'
      obtain ⟨A4, c4, A5, c5, rfl, -⟩ := hO5.flat
      have HT5 := Lib.hid ((hA5.block _ hl4 hnb).trans HT3.out)
      have hl5 := row_lt HT5.out
      clear x0 x1 x2 x3 x4 x5 xf z0 z1 z2 z3 zf hv hq hR5 hA5 hO5
      obtain ⟨x0, x1, x2, x3, x4, x5, xf⟩ := row6 HT5.out
      go_wp2_with fail
      exact bodyPost_ret (v := .agg #[.int .i64 t'.kind, .bool t'.flag, .int .i64 t'.num, .string t'.text, .slice A4 t'.keys.length c4, .slice A5 t'.kids.length c5]) (by simp only [results, Tryz.results34]; go_simp) rfl (ValE.good HQ.out (GoodT.close HV.out HAw.out (by repeat (first | (with_reducible exact Aside.refl _ _) | ((with_reducible refine aside_set ?_ ?_); (focus (simp; done))) | (with_reducible refine aside_alloc ?_))) (by omega) hlb))
theorem of_valI (L : List SignD) (E : Int) (b n : Nat) (hL : SgOk L) (hl : T_listI L E b n) (hp : T_pairsI L E b n) : T_valI L E b (n + 1) := by
  intro d p m w hd1 hd9 hpl hm hn h
  by_cases hk : kindAt L p = 1 ∨ kindAt L p = 3 ∨ 7 ≤ kindAt L p
  · by_cases h8 : 8 < d
    · exact c_val_deep L E b n d p m w hL hpl h hk h8
    · by_cases h3 : 300 ≤ m
      · exact c_val_many L E b n d p m w hL hpl h hk h8 h3
      · rcases hx : L[p]? with _ | x
        · rw [kindAt_none hx] at hk
          omega
        · have hkx := kindAt_some hx
          have hb := hL.kind p x hx
          rw [hkx] at hk
          rcases (show x.kind = 1 ∨ x.kind = 3 ∨ x.kind = 7 ∨ x.kind = 8 ∨ x.kind = 9 ∨ x.kind = 10 ∨ x.kind = 11 by omega) with e | e | e | e | e | e | e
          · exact c_val_pairs L E b n d p m x w hL hx e h8 h3 h hd1 hn hp
          · exact c_val_list L E b n d p m x w hL hx e h8 h3 h hd1 hn hl
          · by_cases hs : 400 < x.text.size
            · exact c_val_wide L E b n d p m x w hL hx e h8 h3 h hs
            · exact c_val_text L E b n d p m x w hL hx e h8 h3 h hs
          · exact c_val_num L E b n d p m x w hL hx e h8 h3 h
          · exact c_val_true L E b n d p m x w hL hx e h8 h3 h
          · exact c_val_false L E b n d p m x w hL hx e h8 h3 h
          · exact c_val_null L E b n d p m x w hL hx e h8 h3 h
  · exact c_val_form L E b n d p m w hL hpl h hk
end Go.Proofs.YtffelpdefjkeaaaGreatDoor
namespace Go.Proofs.YtffelpdefjkeaaaGreatDoor
open Go.RowKit
theorem GrowK.empty {n base B : Nat} {w : World} (hB : B = w.heap.size) (hb : base ≤ w.heap.size) : GrowK n base (w.alloc (.cells #[] 27)).heap.size (w.alloc (.cells #[] 27)) [] (.slice (some ⟨B, 0, none⟩) 0 0) :=
  ⟨[], fun _ _ => False, rfl, fun _ h => (by cases h), own_empty hB hb, fun g h => (by simp [Value.ownBlock] at h; simp; omega), fun _ _ h => h.elim, fun _ _ _ h => h.elim, fun i d es h => (by simp at h)⟩
theorem own9 {wr W9 w9 : World} {o : Obj} {base n m size : Nat} {e : TypeId} {v : Value} {xs : List Value} (h : wr.ownsRow base e size v n xs) (hb : Below W9.heap.size W9 w9) (he : W9.heap = wr.heap) (hn : n = m) : (w9.alloc o).ownsRow base e size v m xs := by
  subst hn
  refine World.ownsRow.alloc (ownsRow_carry h (fun q hq => ?_)) o
  have := (h.lt q hq).2
  rw [← he] at this
  rw [hb.block q this, he]
theorem grown_at {w w' : World} {r q : Option Nat} (h : r = q) (k : w.grownBy w' q) : w.grownBy w' r := by subst h; exact k
theorem row9 {wr W9 w9 w2 : World} {o row : Obj} {r q : Option Nat} {b : Nat} (hrow : wr.heap[b]? = some row) (hb : Below W9.heap.size W9 w9) (he : W9.heap = wr.heap) (hg : (w9.alloc o).grownBy w2 q) (hr : r = q) (hn : r ≠ some b) : w2.heap[b]? = some row := by
  subst hr
  have h1 : b < W9.heap.size := by rw [he]; exact row_lt hrow
  have h2 := hb.size
  rw [hg.block b (by simp; omega) (fun e => hn e.symm), Below.heap_alloc w9 o b (by omega), hb.block b h1, he, hrow]
theorem blk9 {wr W9 w9 w2 : World} {o : Obj} {r q : Option Nat} {b : Nat} (hrow : b < wr.heap.size) (hb : Below W9.heap.size W9 w9) (he : W9.heap = wr.heap) (hg : (w9.alloc o).grownBy w2 q) (hr : r = q) (hn : r ≠ some b) : w2.heap[b]? = wr.heap[b]? := by
  subst hr
  have h1 : b < W9.heap.size := by rw [he]; exact hrow
  have h2 := hb.size
  rw [hg.block b (by simp; omega) (fun e => hn e.symm), Below.heap_alloc w9 o b (by omega), hb.block b h1, he]
theorem old9 {wr W9 w9 : World} {o : Obj} {b : Nat} (hrow : b < wr.heap.size) (hb : Below W9.heap.size W9 w9) (he : W9.heap = wr.heap) : (w9.alloc o).heap[b]? = wr.heap[b]? := by
  have h1 : b < W9.heap.size := by rw [he]; exact hrow
  have h2 := hb.size
  rw [Below.heap_alloc w9 o b (by omega), hb.block b h1, he]
end Go.Proofs.YtffelpdefjkeaaaGreatDoor
namespace Go.Proofs.YtffelpdefjkeaaaGreatDoor
open Go.RowKit Go.Lib
/-- How far a reader's loop may still go. -/
def rdM (N b : Nat) (w : World) : Nat := match w.cell? ⟨b, 4, none⟩ with
  | some (.int _ z) => if z = 0 then (match w.cell? ⟨b, 1, none⟩ with | some (.int _ y) => N + 1 - y.toNat | _ => 0) else 0
  | _ => 0
theorem RdAt.meas {L : List SignD} {E : Int} {b p m : Nat} {f : Flt} {w : World} (h : RdAt L E b p m f w) (N : Nat) : rdM N b w = if f.code = 0 then N + 1 - p else 0 := by
  obtain ⟨A, c, h1, -, -⟩ := h
  unfold rdC at h1
  obtain ⟨a0, a1, a2, a3, a4, a5, a6, af⟩ := row7r h1
  unfold rdM
  rw [a4, a1]
  simp
theorem own9a {wr W9 w9 : World} {o : Obj} {base n m size b : Nat} {e : TypeId} {v : Value} {xs : List Value} (h : wr.ownsRow base e size v n xs) (hb : Aside (fun q => q = b) W9 w9) (he : W9.heap = wr.heap) (hlt : b < base) (hn : n = m) : (w9.alloc o).ownsRow base e size v m xs := by
  subst hn
  refine World.ownsRow.alloc (ownsRow_carry h (fun q hq => ?_)) o
  have h1 := (h.lt q hq).1
  have h2 := (h.lt q hq).2
  rw [← he] at h2
  rw [hb.block q h2 (by omega), he]
theorem blk9a {wr W9 w9 w2 : World} {o : Obj} {r q : Option Nat} {b k : Nat} (hrow : k < wr.heap.size) (hb : Aside (fun q => q = b) W9 w9) (he : W9.heap = wr.heap) (hg : (w9.alloc o).grownBy w2 q) (hr : r = q) (hn : r ≠ some k) (hk : k ≠ b) : w2.heap[k]? = wr.heap[k]? := by
  subst hr
  have h1 : k < W9.heap.size := by rw [he]; exact hrow
  have h2 := hb.size
  rw [hg.block k (by simp; omega) (fun e => hn e.symm), Below.heap_alloc w9 o k (by omega), hb.block k h1 hk, he]
/-- The blocks of a list under way: the result's, the list's. -/
structure LBox (b : Nat) (w wx : World) (v : Value) : Prop where
  zero : wx.heap[w.heap.size]? = some (.cells #[.int .i64 0, .bool false, .int .i64 0, .string ⟨#[]⟩, .slice none 0 0, .slice none 0 0] 27 (0, 0))
  list : wx.heap[w.heap.size + 1]? = some (.cells #[.int .i64 5, .bool false, .int .i64 0, .string ⟨#[]⟩, .slice none 0 0, v] 27 (0, 0))
  aside : Aside (fun q => q = b ∨ w.heap.size ≤ q) w wx
theorem LBox.same {b : Nat} {w wx wy : World} {v : Value} {S : Nat → Prop} (h : LBox b w wx v) (hF : Aside S wx wy) (hS : ∀ q, S q → q = b ∨ w.heap.size + 2 ≤ q) (hb : b < w.heap.size) : LBox b w wy v :=
  ⟨(hF.block _ (row_lt h.zero) (fun hq => by have := hS _ hq; omega)).trans h.zero, (hF.block _ (row_lt h.list) (fun hq => by have := hS _ hq; omega)).trans h.list, h.aside.join hF (fun q hq _ => by have := hS q hq; omega)⟩
def GoodK (R : Nat → Nat → Flt → World → Prop) (b nT : Nat) (w : World) (acc : List TreeD) (q m : Nat) (wx : World) : Prop :=
  ∃ v, LBox b w wx v ∧ GrowK nT (w.heap.size + 2) wx.heap.size wx acc v ∧ R q m flt0 wx
def BadK (R : Nat → Nat → Flt → World → Prop) (b N : Nat) (w : World) (f : Flt) (wx : World) : Prop :=
  ∃ (A : Option Addr) (n c p m : Nat), LBox b w wx (.slice A n c) ∧ R p m f wx ∧ p ≤ N
/-- A list's loop: values read so far, or a fault. -/
def ListAt (L : List SignD) (E : Int) (R : Nat → Nat → Flt → World → Prop) (b n d : Nat) (r : Res) (w wx : World) : Prop :=
  (∃ (acc : List TreeD) (p m k : Nat), GoodK R b (9 - d) w acc p m wx ∧ p ≤ L.length ∧ m ≤ 300 ∧ acc.length ≤ p ∧ needJ L p (.list d acc) ≤ k ∧ k ≤ n ∧ r = readJ L E k (.list d acc) p m) ∨
  (∃ f, BadK R b L.length w f wx ∧ f.code ≠ 0 ∧ r = .bad f)
theorem own_listT {n base hi : Nat} {w wF : World} {l : List TreeD} {v : Value} {S : Nat → Prop} (h : GrowK n base hi w l v) (hF : ∀ q, base ≤ q → q < hi → wF.heap[q]? = w.heap[q]?) (hS : ∀ b, base ≤ b → b < hi → S b) :
    OwnT (n + 1) S wF (tList l) [.int .i64 5, .bool false, .int .i64 0, .string ⟨#[]⟩, .slice none 0 0, v] :=
  OwnT.into ⟨_, _, fun _ => False, fun b => base ≤ b ∧ b < hi, rfl, (show I64 5 from by unfold I64; decide), (show I64 0 from by unfold I64; decide), (show ByteArray.size ⟨#[]⟩ ≤ 9223372036854775807 from by decide), fun _ h => h.elim, fun b hb => hS b hb.1 hb.2,
    ⟨none, 0, rfl, Nat.le_refl _, by decide, fun h => by simp [tList] at h⟩, h.own.keep (fun b hb => hF b hb.1 hb.2) (fun _ h => h)⟩
theorem GoodK.fin {L : List SignD} {E : Int} {b nT : Nat} {w wx wF : World} {acc : List TreeD} {q m : Nat} {A : Option Addr} {c : Nat} (hb : b < w.heap.size) (hL : LBox b w wx (.slice A acc.length c)) (hG : GrowK nT (w.heap.size + 2) wx.heap.size wx acc (.slice A acc.length c)) (hR : RdAt L E b q m flt0 wx) (hF : Aside (fun q => q = w.heap.size) wx wF) :
    GoodT (RdAt L E b) b (nT + 1) (tList acc) q m w (.returned (.agg #[.int .i64 5, .bool false, .int .i64 0, .string ⟨#[]⟩, .slice none 0 0, .slice A acc.length c])) wF := by
  refine ⟨[.int .i64 5, .bool false, .int .i64 0, .string ⟨#[]⟩, .slice none 0 0, .slice A acc.length c], rfl, own_listT hG (fun q h1 h2 => hF.block q h2 (by omega)) (fun b h1 h2 => ⟨by omega, Nat.lt_of_lt_of_le h2 hF.size⟩), hR.past hF (fun q hq => by omega), ?_⟩
  exact Aside.low (hL.aside.join hF (fun q hq _ => .inr (by omega)))
theorem BadK.fin {L : List SignD} {E : Int} {b N : Nat} {w wx wF : World} {f : Flt} {A : Option Addr} {n c p m : Nat} (hb : b < w.heap.size) (hL : LBox b w wx (.slice A n c)) (hR : RdAt L E b p m f wx) (hp : p ≤ N) (hF : Aside (fun q => q = w.heap.size) wx wF) :
    BadT (RdAt L E b) b N f w (.returned (.agg #[.int .i64 5, .bool false, .int .i64 0, .string ⟨#[]⟩, .slice none 0 0, .slice A n c])) wF :=
  ⟨5, false, 0, ⟨#[]⟩, none, 0, 0, A, n, c, p, m, rfl, hR.past hF (fun q hq => by omega), hp, Aside.low (hL.aside.join hF (fun q hq _ => .inr (by omega)))⟩
set_option maxHeartbeats 16000000 in
set_option maxRecDepth 20000 in
theorem of_listI (L : List SignD) (E : Int) (b n : Nat) (hL : SgOk L) (hv : ∀ k, k < n → T_valI L E b k) : T_listI L E b n := by
  intro d p0 m0 w hd1 hd8 hpl hm hn h
  obtain ⟨i0, hi, hz0, hz1, hz2⟩ := info_parts (show (Tryz.prog.info? 27).map (fun i => (i.zero, i.size, i.bytes)) = some (some (.agg #[.int .i64 0, .bool false, .int .i64 0, .string ⟨#[]⟩, .slice none 0 0, .slice none 0 0]), 6, 88) from by kernel_rfl)
  have HRd := Lib.hid h
  have Hv := Lib.hid hv
  have hlb := h.lt
  have hlen := hL.len
  have HLs := Lib.hid hL
  obtain ⟨nd, hnd⟩ : ∃ k, 10 - d = k + 1 := ⟨9 - d, by omega⟩
  have hnd9 : 9 - d = nd := by omega
  obtain ⟨r, hr⟩ : ∃ r, r = listR L E n d p0 m0 := ⟨_, rfl⟩
  rw [← hr, hnd]
  have HR := Lib.hid hr
  have HN9 := Lib.hid hnd9
  have HNe := Lib.hid hn
  clear hr h hv hnd hnd9 hn hL
  by_cases hk4 : kindAt L p0 = 4
  · have HQ := Lib.hid (show r = .good (tList []) (p0 + 1) m0 by rw [HR.out]; exact if_pos hk4)
    have HK := Lib.hid hk4
    clear hk4
    go_enter Tryz.func68, Tryz.ntmps68
    go_wp2_with fail
    refine (c_rd_skip_yes L E 4 b p0 m0 flt0 _ (by omega) (HRd.out.below bel) rfl HK.out).mono ?_
    rintro e w1 ⟨rfl, hR1, hA1⟩
    have hL1 : LBox b w w1 (.slice none 0 0) := ⟨(hA1.block _ (by simp; omega) (by omega)).trans ((Below.heap_alloc _ _ _ (by simp)).trans (heap_at (by simp))), (hA1.block _ (by simp) (by omega)).trans (heap_at (by simp)), ((Aside.of_below (bel : Below w.heap.size w _)).trans (hA1.mono (fun q h => .inl h)))⟩
    have HL1 := Lib.hid hL1
    have HR1 := Lib.hid hR1
    obtain ⟨x0, x1, x2, x3, x4, x5, xf⟩ := row6 hL1.zero
    obtain ⟨y0, y1, y2, y3, y4, y5, yf⟩ := row6 hL1.list
    have l0 := row_lt hL1.zero
    have l1 := row_lt hL1.list
    clear hL1 hR1 hA1
    go_wp2_with fail
    exact bodyPost_ret (v := .agg #[.int .i64 5, .bool false, .int .i64 0, .string ⟨#[]⟩, .slice none 0 0, .slice none 0 0]) (by simp only [results, Tryz.results68]; go_simp) rfl (ValE.good HQ.out (GoodK.fin (acc := []) hlb HL1.out (GrowK.nil _ _ _ _) HR1.out (by repeat (first | (with_reducible exact Aside.refl _ _) | ((with_reducible refine aside_set ?_ ?_); (focus (simp; done))) | (with_reducible refine aside_alloc ?_)))))
  · have HQ := Lib.hid (show r = readJ L E n (.list d []) p0 m0 by rw [HR.out]; exact if_neg hk4)
    have HK := Lib.hid hk4
    clear hk4
    go_enter Tryz.func68, Tryz.ntmps68
    go_wp2_with fail
    refine (c_rd_skip_no L E 4 b p0 m0 flt0 _ (by omega) (HRd.out.below bel) (.inr HK.out)).mono ?_
    rintro e w1 ⟨rfl, hb1⟩
    have hR1 : RdAt L E b p0 m0 flt0 w1 := HRd.out.below bel
    have hL1 : LBox b w w1 (.slice none 0 0) := ⟨(hb1.block _ (by simp; omega)).trans ((Below.heap_alloc _ _ _ (by simp)).trans (heap_at (by simp))), (hb1.block _ (by simp)).trans (heap_at (by simp)), Aside.of_below bel⟩
    have hG1 : GoodK (RdAt L E b) b (9 - d) w [] p0 m0 w1 := ⟨_, hL1, GrowK.nil _ _ _ _, hR1⟩
    have HG1 := Lib.hid hG1
    clear hR1 hL1 hG1 hb1
    go_wp2_with fail
    go_loopw [] (fun wr => ListAt L E (RdAt L E b) b n d r w wr) (fun wr => rdM L.length b wr)
    case atStart => exact .inl ⟨[], p0, m0, n, HG1.out, hpl, hm, by simp, HNe.out, Nat.le_refl _, HQ.out⟩
    case round =>
      have HRel := Lib.hid hrel
      clear hrel HG1
      rcases HRel.out with ⟨acc, p, m, k, hG, hp, hm3, hac, hne, hkn, hrr⟩ | ⟨f, hB, hf, hrr⟩
      · clear HRel
        obtain ⟨v, hLb, hgk, hRr⟩ := hG
        obtain ⟨VA, vc, rfl⟩ := hgk.form
        have HRr := Lib.hid hRr
        have HLb := Lib.hid hLb
        have Hgk := Lib.hid hgk
        have HJ := Lib.hid hrr
        obtain ⟨k1, hk1⟩ : ∃ k1, k = k1 + 1 := by cases k with | zero => simp [needJ] at hne | succ k1 => exact ⟨k1, rfl⟩
        obtain ⟨dd, hdd⟩ : ∃ dd, dd = d + 1 := ⟨_, rfl⟩
        have hwd : IntKind.i64.wrap ((d : Int) + 1) = (dd : Int) := by rw [IntKind.wrap_i64]; omega
        have hdd1 : 1 ≤ dd := by omega
        have hdd9 : dd ≤ 9 := by omega
        have hne2 : needJ L p (.value dd) ≤ k1 := by subst hk1; unfold needJ at hne ⊢; simp only at hne ⊢; omega
        have hk1n : k1 < n := by omega
        have HJ2 := Lib.hid (show r = _ from by rw [HJ.out, hk1, readJ_list, ← hdd])
        have hgood := readJ_good L E k1 (.value dd) p m hp hm3 hne2
        have HDD := Lib.hid hdd
        clear hdd
        have HNe2 := Lib.hid hne2
        have HNl := Lib.hid hne
        obtain ⟨A, c, hbx, -, -⟩ := hRr
        unfold rdC at hbx
        obtain ⟨a0, a1, a2, a3, a4, a5, a6, af⟩ := row7r hbx
        have lb := row_lt hbx
        have a4' : wr.cell? ⟨b, 4, none⟩ = some (.int .i64 0) := a4
        obtain ⟨y0, y1, y2, y3, y4, y5, yf⟩ := row6 hLb.list
        have ly := row_lt hLb.list
        have lz := row_lt hLb.zero
        obtain ⟨ess, F, e1, e2, e3, e4, e5, e6, e7⟩ := Hgk.out
        have HO := Lib.hid e3
        obtain ⟨rb, hrb⟩ : ∃ rb, rb = (Value.slice VA acc.length vc).ownBlock := ⟨_, rfl⟩
        have hrl : ∀ q, rb = some q → w.heap.size + 2 ≤ q ∧ q < wr.heap.size := fun q hq => ⟨(HO.out.lt q (by rw [← hrb]; exact hq)).1, e4 q (by rw [← hrb]; exact hq)⟩
        have hn0 : rb ≠ some w.heap.size := fun h => by have := (hrl _ h).1; omega
        have hn1 : rb ≠ some (w.heap.size + 1) := fun h => by have := (hrl _ h).1; omega
        have hnb : rb ≠ some b := fun h => by have := (hrl _ h).1; omega
        have Hrl := Lib.hid hrl
        have Hr := Lib.hid hrb
        have HE := Lib.hid (And.intro e1 (And.intro e2 (And.intro e4 (And.intro e5 (And.intro e6 e7)))))
        have hb0 : ¬ w.heap.size = b := by omega
        have hb1 : ¬ w.heap.size + 1 = b := by omega
        clear hLb hgk hrr hk1 hne hne2 hbx a4 e1 e2 e3 e4 e5 e6 e7 hrl hrb hkn
        rcases hq : readJ L E k1 (.value dd) p m with f | ⟨t, q, m'⟩
        · have hf0 : f.code ≠ 0 := by rw [hq] at hgood; exact hgood
          have HQv := Lib.hid hq
          have HJ3 := Lib.hid (show r = .bad f by rw [HJ2.out, hq])
          clear hq hgood HJ2
          go_upto_region 5 with fail
          go_cut [] from 16 to 24 (fun wx => BadK (RdAt L E b) b L.length w f wx)
          case first =>
            go_region_law (first | (go_simp; go_at_call 34; refine (Hv.out k1 hk1n dd p m _ hdd1 hdd9 hp hm3 HNe2.out (HRr.out.below bel)).mono ?_; intro e9 w9 hv9; obtain ⟨u0, u1, u2, u3, U4, u4, u44, U5, u5, u55, p9, m9, rfl, hR9, hp9, hA9⟩ := ValE.isBad HQv.out hv9; obtain ⟨-, -, -, -, -, p5, -⟩ := row6 ((hA9.block (w.heap.size + 1) ly hb1).trans HLb.out.list); have l9 : w.heap.size + 1 < w9.heap.size := Nat.lt_of_lt_of_le ly hA9.size; have Hone := Lib.hid (show ∀ z ∈ [Value.int .i64 u0, .bool u1, .int .i64 u2, .string u3, .slice U4 u4 u44, .slice U5 u5 u55], z.oneCell' = true by intro z hz; simp at hz; rcases hz with rfl | rfl | rfl | rfl | rfl | rfl <;> rfl)) | (refine step_append_lies _ rfl _ _ 25 rfl (w.heap.size + 2) 27 i0 (.agg #[.int .i64 0, .bool false, .int .i64 0, .string ⟨#[]⟩, .slice none 0 0, .slice none 0 0]) 6 88 Tryz.underlying25 hi hz0 hz1 hz2 rfl (by decide) _ acc.length ess.flatten rfl (own9a HO.out hA9 rfl (by omega) rfl) ⟨w9.heap.size, 0, none⟩ 1 1 [.int .i64 u0, .bool u1, .int .i64 u2, .string u3, .slice U4 u4 u44, .slice U5 u5 u55] rfl rfl (World.news_of_block (heap_alloc_new w9 _)) Hone.out (by decide) (by unfold maxLen; omega) (by omega) (by have := hA9.size; simp at this ⊢; omega) _ rfl ?_; intro g cap w2 hown2 hgrow2 hat2 hlt2; obtain ⟨-, -, -, -, -, q5, qf⟩ := row6 ((blk9a ly hA9 rfl hgrow2 Hr.out hn1 (by omega)).trans HLb.out.list)))
            all_goals
              have RT2 := (blk9a ly hA9 rfl hgrow2 Hr.out hn1 (by omega)).trans HLb.out.list
              have RZ2 := (blk9a lz hA9 rfl hgrow2 Hr.out hn0 (by omega)).trans HLb.out.zero
              have hgA : Aside (fun q => some q = rb) w9 w2 := Aside.trans (aside_alloc (Aside.refl _ _)) ⟨hgrow2.os, hgrow2.tape, hgrow2.output, hgrow2.size, fun q h1 h2 => hgrow2.block q h1 (fun h => h2 (h.trans Hr.out.symm))⟩
              have hF2 : Aside (fun q => q = b ∨ w.heap.size ≤ q) w w2 := (HLb.out.aside.join (Aside.trans (Aside.of_below (bel : Below wr.heap.size wr _)) hA9) (fun q hq _ => .inl hq)).join hgA (fun q hq _ => .inr (by have := (Hrl.out q hq.symm).1; omega))
              have hR2 := hR9.past hgA (fun q hq => by have := (Hrl.out q hq.symm).1; omega)
              have hl2 := row_lt RT2
              go_wp2_with fail
              go_meet
              exact ⟨some ⟨g, 0, none⟩, acc.length + 1, cap, p9, m9, ⟨(Below.heap_setCell _ _ _ _ (by simp)).trans RZ2, heap_setCell_same w2 (w.heap.size + 1) 5 _ _ _ RT2, aside_set (.inr (by simp)) hF2⟩, hR2.past (S := fun q => q = w.heap.size + 1) (aside_set rfl (Aside.refl _ _)) (fun q hq => by omega), hp9⟩
          case rest =>
            obtain ⟨A5, n5, c5, p5, m5, hL5, hR5, hp5⟩ := hcut
            have HL5 := Lib.hid hL5
            have HR5 := Lib.hid hR5
            clear hL5 hR5 a0 a1 a2 a3 a4' a5 a6 af y0 y1 y2 y3 y4 y5 yf
            go_wp2_with fail
            refine (c_rd_skip_no L E 4 b p5 m5 f _ (by omega) HR5.out (.inl hf0)).mono ?_
            rintro e w6 ⟨rfl, hb6⟩
            have HB6 := Lib.hid hb6
            clear hb6
            go_wp2_with fail
            refine (c_rd_skip_no L E 6 b p5 m5 f _ (by omega) (HR5.out.below HB6.out) (.inl hf0)).mono ?_
            rintro e w7 ⟨rfl, hb7⟩
            have HB7 := Lib.hid (HB6.out.trans (hb7.mono HB6.out.size))
            clear hb7
            go_wp2_with fail
            refine (c_rd_fail_old L E 4 b p5 m5 f _ (HR5.out.below HB7.out) hf0).mono ?_
            rintro e w8 ⟨rfl, hb8⟩
            have HB8 := Lib.hid (HB7.out.trans (hb8.mono HB7.out.size))
            clear hb8
            go_wp2_with fail
            go_roundw
            case rel => exact .inr ⟨f, ⟨A5, n5, c5, p5, m5, HL5.out.same (Aside.of_below (S := fun q => q = b) HB8.out) (fun q hq => .inl hq) hlb, HR5.out.below HB8.out, hp5⟩, hf0, HJ3.out⟩
            case measure => rw [(HR5.out.below HB8.out).meas, HRr.out.meas, if_neg hf0, if_pos (show flt0.code = 0 from rfl)]; omega
        · rw [hq] at hgood
          obtain ⟨hg1, hg2, hg3⟩ := hgood
          have HQv := Lib.hid hq
          have HJ3 := Lib.hid (show r = if kindAt L q = 4 then .good (tList (acc ++ [t])) (q + 1) m' else if kindAt L q = 6 then readJ L E k1 (.list d (acc ++ [t])) (q + 1) m' else .bad (badF L E 4 q) by rw [HJ2.out, hq])
          clear hq HJ2
          go_upto_region 5 with fail
          go_cut [] from 16 to 24 (fun wx => GoodK (RdAt L E b) b (9 - d) w (acc ++ [t]) q m' wx)
          case first =>
            go_region_law (first | (go_simp; go_at_call 34; refine (Hv.out k1 hk1n dd p m _ hdd1 hdd9 hp hm3 HNe2.out (HRr.out.below bel)).mono ?_; intro e9 w9 hv9; obtain ⟨cs9, rfl, hO9, hR9, hA9⟩ := ValE.isGood HQv.out hv9; have hO9f := hO9.flat; obtain ⟨U4, u44, U5, u55, rfl, -⟩ := hO9f; obtain ⟨-, -, -, -, -, p5, -⟩ := row6 ((hA9.block (w.heap.size + 1) ly hb1).trans HLb.out.list); have l9 : w.heap.size + 1 < w9.heap.size := Nat.lt_of_lt_of_le ly hA9.size; have Hone := Lib.hid hO9.one) | (refine step_append_lies _ rfl _ _ 25 rfl (w.heap.size + 2) 27 i0 (.agg #[.int .i64 0, .bool false, .int .i64 0, .string ⟨#[]⟩, .slice none 0 0, .slice none 0 0]) 6 88 Tryz.underlying25 hi hz0 hz1 hz2 rfl (by decide) _ acc.length ess.flatten rfl (own9a HO.out hA9 rfl (by omega) rfl) ⟨w9.heap.size, 0, none⟩ 1 1 [.int .i64 t.kind, .bool t.flag, .int .i64 t.num, .string t.text, .slice U4 t.keys.length u44, .slice U5 t.kids.length u55] rfl rfl (World.news_of_block (heap_alloc_new w9 _)) Hone.out (by decide) (by unfold maxLen; omega) (by omega) (by have := hA9.size; simp at this ⊢; omega) _ rfl ?_; intro g cap w2 hown2 hgrow2 hat2 hlt2; obtain ⟨-, -, -, -, -, q5, qf⟩ := row6 ((blk9a ly hA9 rfl hgrow2 Hr.out hn1 (by omega)).trans HLb.out.list)))
            all_goals
              have RT2 := (blk9a ly hA9 rfl hgrow2 Hr.out hn1 (by omega)).trans HLb.out.list
              have RZ2 := (blk9a lz hA9 rfl hgrow2 Hr.out hn0 (by omega)).trans HLb.out.zero
              have hgA : Aside (fun q => some q = rb) w9 w2 := Aside.trans (aside_alloc (Aside.refl _ _)) ⟨hgrow2.os, hgrow2.tape, hgrow2.output, hgrow2.size, fun q h1 h2 => hgrow2.block q h1 (fun h => h2 (h.trans Hr.out.symm))⟩
              have hF2 : Aside (fun q => q = b ∨ w.heap.size ≤ q) w w2 := (HLb.out.aside.join (Aside.trans (Aside.of_below (bel : Below wr.heap.size wr _)) hA9) (fun q hq _ => .inl hq)).join hgA (fun q hq _ => .inr (by have := (Hrl.out q hq.symm).1; omega))
              have hR2 := hR9.past hgA (fun q hq => by have := (Hrl.out q hq.symm).1; omega)
              have hl2 := row_lt RT2
              have hs9 : wr.heap.size ≤ w9.heap.size := hA9.size
              have hb49 : ∀ x, x < wr.heap.size → x ≠ b → w9.heap[x]? = wr.heap[x]? := fun x hx hxb => hA9.block x hx hxb
              obtain ⟨e1, e2, e4, e5, e6, e7⟩ := HE.out
              have Hp := Lib.hid (GrowK.push (hi := wr.heap.size) (w := w9.alloc (.cells #[.int .i64 t.kind, .bool t.flag, .int .i64 t.num, .string t.text, .slice U4 t.keys.length u44, .slice U5 t.kids.length u55] 27)) (S := fun x => wr.heap.size ≤ x ∧ x < w9.heap.size) acc.length rfl (by simp; omega) ((hO9.up (show 10 - dd ≤ 9 - d by have := HDD.out; omega)).carry (fun x hx => Below.heap_alloc _ _ x hx.2) (fun x hx => by have := hx.1; (try simp at this); exact ⟨by omega, hx.2⟩)) (fun x hx => by simp; omega) (by omega) ess F e1 e2 e4 e5 e6
                (fun i d' es' h1 h2 => (e7 i d' es' h1 h2).carry (fun x hx => (Below.heap_alloc _ _ x (by have := (e5 i x hx).2.1; omega)).trans (hb49 x (by have := (e5 i x hx).2.1; omega) (by have := (e5 i x hx).1; omega))) (fun _ h => h)) hown2 hgrow2 (by rcases hat2 with h | h; exact .inl h; exact .inr (by simp at h ⊢; omega)) hlt2)
              go_wp2_with fail
              go_meet
              exact ⟨.slice (some ⟨g, 0, none⟩) (acc.length + 1) cap, ⟨(Below.heap_setCell _ _ _ _ (by simp)).trans RZ2, heap_setCell_same w2 (w.heap.size + 1) 5 _ _ _ RT2, aside_set (.inr (by simp)) hF2⟩, Hp.out.carry (by simp) (fun x h1 _ => Below.heap_setCell _ _ _ _ (by simp; omega)), hR2.past (S := fun q => q = w.heap.size + 1) (aside_set rfl (Aside.refl _ _)) (fun q hq => by omega)⟩
          case rest =>
            obtain ⟨v5, hL5, hG5, hR5⟩ := hcut
            obtain ⟨A5, c5, rfl⟩ := hG5.form
            have HL5 := Lib.hid hL5
            have HR5 := Lib.hid hR5
            have HG5 := Lib.hid hG5
            clear hL5 hR5 hG5 a0 a1 a2 a3 a4' a5 a6 af y0 y1 y2 y3 y4 y5 yf
            by_cases hk4 : kindAt L q = 4
            · have HF := Lib.hid (show r = .good (tList (acc ++ [t])) (q + 1) m' by rw [HJ3.out, if_pos hk4])
              have HK4 := Lib.hid hk4
              clear hk4
              go_wp2_with fail
              refine (c_rd_skip_yes L E 4 b q m' flt0 _ (by omega) HR5.out rfl HK4.out).mono ?_
              rintro e w6 ⟨rfl, hR6, hA6⟩
              have HL6 := Lib.hid (HL5.out.same hA6 (fun q hq => .inl hq) hlb)
              have HR6 := Lib.hid hR6
              have HG6 := Lib.hid (HG5.out.carry hA6.size (fun x h1 h2 => hA6.block x h2 (by omega)))
              obtain ⟨x0, x1, x2, x3, x4, x5, xf⟩ := row6 HL6.out.zero
              obtain ⟨y0, y1, y2, y3, y4, y5, yf⟩ := row6 HL6.out.list
              have l0 := row_lt HL6.out.zero
              have l1 := row_lt HL6.out.list
              clear hR6 hA6
              go_wp2_with fail
              exact bodyPost_ret (v := .agg #[.int .i64 5, .bool false, .int .i64 0, .string ⟨#[]⟩, .slice none 0 0, .slice A5 (acc ++ [t]).length c5]) (by simp only [results, Tryz.results68]; go_simp) rfl (ValE.good HF.out (GoodK.fin (nT := nd) hlb HL6.out (HN9.out ▸ HG6.out) HR6.out (by repeat (first | (with_reducible exact Aside.refl _ _) | ((with_reducible refine aside_set ?_ ?_); (focus (simp; done))) | (with_reducible refine aside_alloc ?_)))))
            · by_cases hk6 : kindAt L q = 6
              · have HF := Lib.hid (show r = readJ L E k1 (.list d (acc ++ [t])) (q + 1) m' by rw [HJ3.out, if_neg hk4, if_pos hk6])
                have hql := kindAt_lt (L := L) (p := q) (by omega)
                have HK4 := Lib.hid hk4
                have HK6 := Lib.hid hk6
                have HNx := Lib.hid (show needJ L (q + 1) (.list d (acc ++ [t])) ≤ k1 by have := HNe2.out; unfold needJ at this ⊢; simp only at this ⊢; omega)
                clear hk4 hk6
                go_wp2_with fail
                refine (c_rd_skip_no L E 4 b q m' flt0 _ (by omega) HR5.out (.inr HK4.out)).mono ?_
                rintro e w6 ⟨rfl, hb6⟩
                have HB6 := Lib.hid hb6
                clear hb6
                go_wp2_with fail
                refine (c_rd_skip_yes L E 6 b q m' flt0 _ (by omega) (HR5.out.below HB6.out) rfl HK6.out).mono ?_
                rintro e w7 ⟨rfl, hR7, hA7⟩
                have HR7 := Lib.hid hR7
                have HA7 := Lib.hid ((Aside.of_below (S := fun q => q = b) HB6.out).trans hA7)
                clear hR7 hA7
                go_wp2_with fail
                go_roundw
                case rel => exact .inl ⟨acc ++ [t], q + 1, m', k1, ⟨_, HL5.out.same HA7.out (fun q hq => .inl hq) hlb, HG5.out.carry HA7.out.size (fun x h1 h2 => HA7.out.block x h2 (by omega)), HR7.out⟩, by omega, hg3, by simp; omega, HNx.out, by omega, HF.out⟩
                case measure => rw [HR7.out.meas, HRr.out.meas, if_pos (show flt0.code = 0 from rfl), if_pos (show flt0.code = 0 from rfl)]; omega
              · have HF := Lib.hid (show r = .bad (badF L E 4 q) by rw [HJ3.out, if_neg hk4, if_neg hk6])
                have HK4 := Lib.hid hk4
                have HK6 := Lib.hid hk6
                clear hk4 hk6
                go_wp2_with fail
                refine (c_rd_skip_no L E 4 b q m' flt0 _ (by omega) HR5.out (.inr HK4.out)).mono ?_
                rintro e w6 ⟨rfl, hb6⟩
                have HB6 := Lib.hid hb6
                clear hb6
                go_wp2_with fail
                refine (c_rd_skip_no L E 6 b q m' flt0 _ (by omega) (HR5.out.below HB6.out) (.inr HK6.out)).mono ?_
                rintro e w7 ⟨rfl, hb7⟩
                have HB7 := Lib.hid (HB6.out.trans (hb7.mono HB6.out.size))
                clear hb7
                go_wp2_with fail
                refine (c_rd_fail_new L E 4 b q m' flt0 _ (by omega) (HR5.out.below HB7.out) rfl).mono ?_
                rintro e w8 ⟨rfl, hR8, hA8⟩
                have HR8 := Lib.hid hR8
                have HA8 := Lib.hid ((Aside.of_below (S := fun q => q = b) HB7.out).trans hA8)
                clear hR8 hA8
                go_wp2_with fail
                go_roundw
                case rel => exact .inr ⟨badF L E 4 q, ⟨A5, _, c5, q, m', HL5.out.same HA8.out (fun q hq => .inl hq) hlb, HR8.out, hg2⟩, by show (4 : Int) ≠ 0; decide, HF.out⟩
                case measure => rw [HR8.out.meas, HRr.out.meas, if_neg (by show ¬ (4 : Int) = 0; decide), if_pos (show flt0.code = 0 from rfl)]; omega
      · clear HRel
        obtain ⟨A5, n5, c5, p5, m5, hL5, hR5, hp5⟩ := hB
        have HL5 := Lib.hid hL5
        have HR5 := Lib.hid hR5
        have HF := Lib.hid hrr
        obtain ⟨z, hz⟩ : ∃ z, z = f.code := ⟨_, rfl⟩
        obtain ⟨A, c, hbx, -, -⟩ := hR5
        unfold rdC at hbx
        obtain ⟨a0, a1, a2, a3, a4, a5, a6, af⟩ := row7r hbx
        have lb := row_lt hbx
        rw [← hz] at a4 hf
        have dz : (z == 0) = false := beq_eq_false_iff_ne.2 hf
        obtain ⟨x0, x1, x2, x3, x4, x5, xf⟩ := row6 HL5.out.zero
        obtain ⟨y0, y1, y2, y3, y4, y5, yf⟩ := row6 HL5.out.list
        have l0 := row_lt HL5.out.zero
        have l1 := row_lt HL5.out.list
        clear hL5 hrr hz hbx hf
        go_wp2_with fail
        exact bodyPost_ret (v := .agg #[.int .i64 5, .bool false, .int .i64 0, .string ⟨#[]⟩, .slice none 0 0, .slice A5 n5 c5]) (by simp only [results, Tryz.results68]; go_simp) rfl (ValE.bad HF.out (BadK.fin hlb HL5.out HR5.out hp5 (by repeat (first | (with_reducible exact Aside.refl _ _) | ((with_reducible refine aside_set ?_ ?_); (focus (simp; done))) | (with_reducible refine aside_alloc ?_)))))
end Go.Proofs.YtffelpdefjkeaaaGreatDoor
namespace Go.Proofs.YtffelpdefjkeaaaGreatDoor
open Go.Shelf
def laysBs_ren : Go.Shelf.Ren := ⟨fun | 26 => 107 | 33 => 131 | 34 => 132 | 38 => 149 | n => n, fun | 24 => 24 | 9 => 9 | 3 => 3 | 4 => 4 | 40 => 126 | 0 => 0 | n => n, fun | n => n⟩
theorem laysBs : Go.Proofs.Lays2.n26 Tryz.prog laysBs_ren := {
  mixed := by kernel_rfl
  f26 := Tryz.func107.trans (congrArg some (by kernel_rfl))
  f33 := Tryz.func131.trans (congrArg some (by kernel_rfl))
  f34 := Tryz.func132.trans (congrArg some (by kernel_rfl))
  f38 := Tryz.func149.trans (congrArg some (by kernel_rfl))
  t0 := Tryz.underlying0
  a0 := Tryz.isAgg0
  z0 := Tryz.sizeOf0
  v0 := Tryz.zeroValue0
  t3 := Tryz.underlying3
  a3 := Tryz.isAgg3
  z3 := Tryz.sizeOf3
  v3 := Tryz.zeroValue3
  t4 := Tryz.underlying4
  a4 := Tryz.isAgg4
  z4 := Tryz.sizeOf4
  v4 := Tryz.zeroValue4
  t9 := Tryz.underlying9
  a9 := Tryz.isAgg9
  z9 := Tryz.sizeOf9
  v9 := Tryz.zeroValue9
  t24 := Tryz.underlying24
  a24 := Tryz.isAgg24
  z24 := Tryz.sizeOf24
  v24 := Tryz.zeroValue24
  t40 := Tryz.underlying126
  a40 := Tryz.isAgg126
  z40 := Tryz.sizeOf126
  v40 := Tryz.zeroValue126 }
def laysIs_ren : Go.Shelf.Ren := ⟨fun | 22 => 108 | 29 => 133 | 30 => 134 | 36 => 150 | 17 => 161 | n => n, fun | 24 => 24 | 9 => 9 | 3 => 3 | 4 => 4 | 0 => 0 | n => n, fun | n => n⟩
theorem laysIs : Go.Proofs.Lays2.n22 Tryz.prog laysIs_ren := {
  mixed := by kernel_rfl
  f17 := Tryz.func161.trans (congrArg some (by kernel_rfl))
  f22 := Tryz.func108.trans (congrArg some (by kernel_rfl))
  f29 := Tryz.func133.trans (congrArg some (by kernel_rfl))
  f30 := Tryz.func134.trans (congrArg some (by kernel_rfl))
  f36 := Tryz.func150.trans (congrArg some (by kernel_rfl))
  t0 := Tryz.underlying0
  a0 := Tryz.isAgg0
  z0 := Tryz.sizeOf0
  v0 := Tryz.zeroValue0
  t3 := Tryz.underlying3
  a3 := Tryz.isAgg3
  z3 := Tryz.sizeOf3
  v3 := Tryz.zeroValue3
  t4 := Tryz.underlying4
  a4 := Tryz.isAgg4
  z4 := Tryz.sizeOf4
  v4 := Tryz.zeroValue4
  t9 := Tryz.underlying9
  a9 := Tryz.isAgg9
  z9 := Tryz.sizeOf9
  v9 := Tryz.zeroValue9
  t24 := Tryz.underlying24
  a24 := Tryz.isAgg24
  z24 := Tryz.sizeOf24
  v24 := Tryz.zeroValue24
  i9 := by kernel_rfl }
end Go.Proofs.YtffelpdefjkeaaaGreatDoor
namespace Go.Proofs.YtffelpdefjkeaaaGreatDoor
open Go.RowKit
theorem bless_tri : ∀ a b : List UInt8, Op.bytesLess a b = false → Op.bytesLess b a = false → a = b
  | [], [], _, _ => rfl
  | [], _ :: _, h, _ => by simp [Op.bytesLess] at h
  | _ :: _, [], _, h => by simp [Op.bytesLess] at h
  | x :: a, y :: b, h1, h2 => by
    simp only [Op.bytesLess, Bool.or_eq_false_iff, Bool.and_eq_false_iff, decide_eq_false_iff_not, beq_eq_false_iff_ne] at h1 h2
    have hxy : x = y := UInt8.le_antisymm (UInt8.not_lt.1 h2.1) (UInt8.not_lt.1 h1.1)
    subst hxy
    rw [bless_tri a b (h1.2.resolve_left (by simp)) (h2.2.resolve_left (by simp))]
theorem bless_trans2 : ∀ a b c : List UInt8, Op.bytesLess a b = true → Op.bytesLess b c = true → Op.bytesLess a c = true
  | _, _, [], _, h => by cases ‹List UInt8› <;> simp [Op.bytesLess] at h
  | [], _, _ :: _, _, _ => by simp [Op.bytesLess]
  | _ :: _, [], _ :: _, h, _ => by simp [Op.bytesLess] at h
  | x :: a, y :: b, z :: c, h1, h2 => by
    simp only [Op.bytesLess, Bool.or_eq_true, Bool.and_eq_true, decide_eq_true_eq, beq_iff_eq] at h1 h2 ⊢
    rcases h1 with h1 | ⟨rfl, h1⟩
    · rcases h2 with h2 | ⟨rfl, h2⟩
      · exact .inl (UInt8.lt_trans h1 h2)
      · exact .inl h1
    · rcases h2 with h2 | ⟨rfl, h2⟩
      · exact .inl h2
      · exact .inr ⟨rfl, bless_trans2 a b c h1 h2⟩
theorem bless_self : ∀ a : List UInt8, Op.bytesLess a a = false
  | [] => rfl
  | x :: a => by unfold Op.bytesLess; simp [UInt8.lt_irrefl, bless_self a]
theorem toList_inj {a b : ByteArray} (h : a.toList = b.toList) : a = b := by
  rw [ByteArray.toList_eq, ByteArray.toList_eq] at h
  cases a; cases b
  simp at h
  rw [h]
end Go.Proofs.YtffelpdefjkeaaaGreatDoor
