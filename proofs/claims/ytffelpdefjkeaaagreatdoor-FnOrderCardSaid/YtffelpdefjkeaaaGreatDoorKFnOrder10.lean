/- Written by wip/tools/pack.py: the texts that FnOrder needs, without what it does not need. No conditions. -/
import Derived.Test.YtffelpdefjkeaaaGreatDoorKFnOrder9
import Derived.Deep.RegionLaw
import Derived.Deep.CutBlock
import Derived.Deep.CutRange
namespace Go.Proofs.YtffelpdefjkeaaaGreatDoor
open Go.RowKit Go.Lib
theorem set7_3 {w : World} {b : Nat} {a0 a1 a2 a3 a4 a5 a6 u : Value} {e : TypeId} (h : w.heap[b]? = some (.cells #[a0, a1, a2, a3, a4, a5, a6] e (0, 0))) : (w.setCell ⟨b, 3, none⟩ u).heap[b]? = some (.cells #[a0, a1, a2, u, a4, a5, a6] e (0, 0)) := heap_setCell_same w b 3 _ _ u h
theorem Aside.low {b : Nat} {a c : World} (h : Aside (fun q => q = b ∨ a.heap.size ≤ q) a c) : Aside (fun q => q = b) a c :=
  ⟨h.os, h.tape, h.output, h.size, fun i hi hn => h.block i hi (fun hq => hq.elim hn (fun hq => absurd hi (by omega)))⟩
theorem BadT.close {L : List SignD} {E : Int} {b N : Nat} {f : Flt} {w w3 w5 wF : World} {e : Ending} (h : BadT (RdAt L E b) b N f w3 e w5) (hA : Aside (fun q => q = b ∨ w.heap.size ≤ q) w w3) (hF : Aside (fun q => q = w.heap.size) w5 wF) (hb : b < w.heap.size) : BadT (RdAt L E b) b N f w e wF := by
  obtain ⟨k, fl, nu, t, A4, n4, c4, A5, n5, c5, p', m', h1, h2, h3, h4⟩ := h
  refine ⟨k, fl, nu, t, A4, n4, c4, A5, n5, c5, p', m', h1, h2.past hF (fun q hq => by omega), h3, ?_⟩
  exact Aside.low ((hA.join h4 (fun q hq _ => .inl hq)).join hF (fun q hq _ => .inr (by omega)))
theorem GoodT.close {L : List SignD} {E : Int} {b nT : Nat} {t : TreeD} {q m' : Nat} {w w3 w5 wF : World} {e : Ending} (h : GoodT (RdAt L E b) b nT t q m' w3 e w5) (hA : Aside (fun q => q = b ∨ w.heap.size ≤ q) w w3) (hF : Aside (fun q => q = w.heap.size) w5 wF) (hlt : w.heap.size < w3.heap.size) (hb : b < w.heap.size) : GoodT (RdAt L E b) b nT t q m' w e wF := by
  obtain ⟨cs, h1, h2, h3, h4⟩ := h
  refine ⟨cs, h1, h2.carry (fun x hx => hF.block x hx.2 (by omega)) (fun x hx => ⟨by omega, Nat.lt_of_lt_of_le hx.2 hF.size⟩), h3.past hF (fun q hq => by omega), ?_⟩
  exact Aside.low ((hA.join h4 (fun q hq _ => .inl hq)).join hF (fun q hq _ => .inr (by omega)))
set_option maxHeartbeats 4000000 in
set_option maxRecDepth 20000 in
theorem c_val_form (L : List SignD) (E : Int) (b n d p m : Nat) (w : World) (hL : SgOk L) (hpl : p ≤ L.length) (h : RdAt L E b p m flt0 w) (hk : ¬ (kindAt L p = 1 ∨ kindAt L p = 3 ∨ 7 ≤ kindAt L p)) :
    Calls Tryz.prog 34 #[.pointer (some ⟨b, 0, none⟩), .int .i64 d] w (ValE (RdAt L E b) b L.length (10 - d) (readJ L E (n + 1) (.value d) p m) w) := by
  have HRd := Lib.hid h
  have hlb := h.lt
  have hlen := hL.len
  have hnb : ¬ w.heap.size = b := by omega
  obtain ⟨t, ht⟩ : ∃ t, t = kindAt L p := ⟨_, rfl⟩
  obtain ⟨r, hr⟩ : ∃ r, r = readJ L E (n + 1) (.value d) p m := ⟨_, rfl⟩
  rw [← hr]
  have HT := Lib.hid ht
  have HR := Lib.hid hr
  rw [readJ_form hk] at HR
  rw [← ht] at hk
  have d1 : (t != 1) = true := bne_iff_ne.2 (fun h => hk (.inl h))
  have d1' : (t == 1) = false := beq_eq_false_iff_ne.2 (fun h => hk (.inl h))
  have d2 : (t != 3) = true := bne_iff_ne.2 (fun h => hk (.inr (.inl h)))
  have d2' : (t == 3) = false := beq_eq_false_iff_ne.2 (fun h => hk (.inr (.inl h)))
  have d3 : t < 7 := by have : ¬ 7 ≤ t := fun h => hk (.inr (.inr h)); omega
  clear hk
  clear ht hr h
  go_enter Tryz.func34, Tryz.ntmps34
  go_wp2_with fail
  refine (c_rd_kind L E b p m flt0 _ (by omega) (HRd.out.below bel)).mono ?_
  rintro e w1 ⟨rfl, hb1⟩
  rw [← HT.out]
  have HB1 := Lib.hid (bel : Below w.heap.size w w1)
  have HT1 := Lib.hid ((hb1.block w.heap.size (by simp)).trans (heap_at (w := w) (o := .cells #[.int .i64 0, .bool false, .int .i64 0, .string ⟨#[]⟩, .slice none 0 0, .slice none 0 0] 27) rfl))
  have HR1 := Lib.hid (HRd.out.below HB1.out)
  have hl1 := row_lt HT1.out
  obtain ⟨A, c, hbx, -, -⟩ := HR1.out
  unfold rdC at hbx
  obtain ⟨a0, a1, a2, a3, a4, a5, a6, af⟩ := row7r hbx
  have l1 := row_lt hbx
  clear hbx hb1
  go_wp2_with fail
  refine (c_rd_fail_new L E 4 b p m flt0 _ (by omega) HR1.out rfl).mono ?_
  rintro e w2 ⟨rfl, hR2, hA2⟩
  have HR2 := Lib.hid hR2
  have HA2 := Lib.hid hA2
  have HT2 := Lib.hid ((hA2.block _ hl1 hnb).trans HT1.out)
  have hl2 := row_lt HT2.out
  clear a0 a1 a2 a3 a4 a5 a6 af hR2 hA2
  obtain ⟨A2, c2, hbx, -, -⟩ := HR2.out
  unfold rdC at hbx
  obtain ⟨a0, a1, a2, a3, a4, a5, a6, af⟩ := row7r hbx
  obtain ⟨x0, x1, x2, x3, x4, x5, xf⟩ := row6 HT2.out
  have l2 := row_lt hbx
  have hc4 : (badF L E 4 p).code = 4 := rfl
  rw [hc4] at a4
  clear hbx hc4
  go_wp2_with fail
  exact bodyPost_ret (v := .agg #[.int .i64 0, .bool false, .int .i64 0, .string ⟨#[]⟩, .slice none 0 0, .slice none 0 0]) (by simp only [results, Tryz.results34]; go_simp) rfl (ValE.bad HR.out (BadT.close ⟨0, false, 0, ⟨#[]⟩, none, 0, 0, none, 0, 0, p, m, rfl, HR2.out, hpl, HA2.out⟩ (Aside.of_below HB1.out) (by repeat (first | (with_reducible exact Aside.refl _ _) | ((with_reducible refine aside_set ?_ ?_); (focus (simp; done))) | (with_reducible refine aside_alloc ?_))) hlb))
set_option maxHeartbeats 4000000 in
set_option maxRecDepth 20000 in
theorem c_val_deep (L : List SignD) (E : Int) (b n d p m : Nat) (w : World) (hL : SgOk L) (hpl : p ≤ L.length) (h : RdAt L E b p m flt0 w) (hk : kindAt L p = 1 ∨ kindAt L p = 3 ∨ 7 ≤ kindAt L p) (h8 : 8 < d) :
    Calls Tryz.prog 34 #[.pointer (some ⟨b, 0, none⟩), .int .i64 d] w (ValE (RdAt L E b) b L.length (10 - d) (readJ L E (n + 1) (.value d) p m) w) := by
  have HRd := Lib.hid h
  have hlb := h.lt
  have hlen := hL.len
  have hnb : ¬ w.heap.size = b := by omega
  obtain ⟨t, ht⟩ : ∃ t, t = kindAt L p := ⟨_, rfl⟩
  obtain ⟨r, hr⟩ : ∃ r, r = readJ L E (n + 1) (.value d) p m := ⟨_, rfl⟩
  rw [← hr]
  have HT := Lib.hid ht
  have HR := Lib.hid hr
  rw [readJ_deep hk h8] at HR
  have hcs : t = 1 ∨ (t != 1) = true ∧ t = 3 ∨ (t != 1) = true ∧ (t != 3) = true ∧ decide (t < 7) = false := by
    rw [← ht] at hk
    by_cases e1 : t = 1
    · exact .inl e1
    · by_cases e3 : t = 3
      · exact .inr (.inl ⟨bne_iff_ne.2 e1, e3⟩)
      · exact .inr (.inr ⟨bne_iff_ne.2 e1, bne_iff_ne.2 e3, decide_eq_false (by omega)⟩)
  have d8 : (8 : Int) < d := by omega
  clear hk h8
  clear ht hr h
  rcases hcs with rfl | ⟨e1, rfl⟩ | ⟨e1, e3, e7⟩
  all_goals
    go_enter Tryz.func34, Tryz.ntmps34
    go_wp2_with fail
    refine (c_rd_kind L E b p m flt0 _ (by omega) (HRd.out.below bel)).mono ?_
    rintro e w1 ⟨rfl, hb1⟩
    rw [← HT.out]
    have HB1 := Lib.hid (bel : Below w.heap.size w w1)
    have HT1 := Lib.hid ((hb1.block w.heap.size (by simp)).trans (heap_at (w := w) (o := .cells #[.int .i64 0, .bool false, .int .i64 0, .string ⟨#[]⟩, .slice none 0 0, .slice none 0 0] 27) rfl))
    have HR1 := Lib.hid (HRd.out.below HB1.out)
    have hl1 := row_lt HT1.out
    obtain ⟨A, c, hbx, -, -⟩ := HR1.out
    unfold rdC at hbx
    obtain ⟨a0, a1, a2, a3, a4, a5, a6, af⟩ := row7r hbx
    have l1 := row_lt hbx
    clear hbx hb1
    go_wp2_with fail
    refine (c_rd_fail_new L E 6 b p m flt0 _ (by omega) HR1.out rfl).mono ?_
    rintro e w2 ⟨rfl, hR2, hA2⟩
    have HR2 := Lib.hid hR2
    have HA2 := Lib.hid hA2
    have HT2 := Lib.hid ((hA2.block _ hl1 hnb).trans HT1.out)
    have hl2 := row_lt HT2.out
    clear a0 a1 a2 a3 a4 a5 a6 af hR2 hA2
    obtain ⟨A2, c2, hbx, -, -⟩ := HR2.out
    unfold rdC at hbx
    obtain ⟨a0, a1, a2, a3, a4, a5, a6, af⟩ := row7r hbx
    obtain ⟨x0, x1, x2, x3, x4, x5, xf⟩ := row6 HT2.out
    have l2 := row_lt hbx
    have hc4 : (badF L E 6 p).code = 6 := rfl
    rw [hc4] at a4
    clear hbx hc4
    go_wp2_with fail
    exact bodyPost_ret (v := .agg #[.int .i64 0, .bool false, .int .i64 0, .string ⟨#[]⟩, .slice none 0 0, .slice none 0 0]) (by simp only [results, Tryz.results34]; go_simp) rfl (ValE.bad HR.out (BadT.close ⟨0, false, 0, ⟨#[]⟩, none, 0, 0, none, 0, 0, p, m, rfl, HR2.out, hpl, HA2.out⟩ (Aside.of_below HB1.out) (by repeat (first | (with_reducible exact Aside.refl _ _) | ((with_reducible refine aside_set ?_ ?_); (focus (simp; done))) | (with_reducible refine aside_alloc ?_))) hlb))
set_option maxHeartbeats 4000000 in
set_option maxRecDepth 20000 in
theorem c_val_many (L : List SignD) (E : Int) (b n d p m : Nat) (w : World) (hL : SgOk L) (hpl : p ≤ L.length) (h : RdAt L E b p m flt0 w) (hk : kindAt L p = 1 ∨ kindAt L p = 3 ∨ 7 ≤ kindAt L p) (h8 : ¬ 8 < d) (h3 : 300 ≤ m) :
    Calls Tryz.prog 34 #[.pointer (some ⟨b, 0, none⟩), .int .i64 d] w (ValE (RdAt L E b) b L.length (10 - d) (readJ L E (n + 1) (.value d) p m) w) := by
  have HRd := Lib.hid h
  have hlb := h.lt
  have hlen := hL.len
  have hnb : ¬ w.heap.size = b := by omega
  obtain ⟨t, ht⟩ : ∃ t, t = kindAt L p := ⟨_, rfl⟩
  obtain ⟨r, hr⟩ : ∃ r, r = readJ L E (n + 1) (.value d) p m := ⟨_, rfl⟩
  rw [← hr]
  have HT := Lib.hid ht
  have HR := Lib.hid hr
  rw [readJ_many hk h8 h3] at HR
  have hcs : t = 1 ∨ (t != 1) = true ∧ t = 3 ∨ (t != 1) = true ∧ (t != 3) = true ∧ decide (t < 7) = false := by
    rw [← ht] at hk
    by_cases e1 : t = 1
    · exact .inl e1
    · by_cases e3 : t = 3
      · exact .inr (.inl ⟨bne_iff_ne.2 e1, e3⟩)
      · exact .inr (.inr ⟨bne_iff_ne.2 e1, bne_iff_ne.2 e3, decide_eq_false (by omega)⟩)
  have d8 : decide ((8 : Int) < d) = false := decide_eq_false (by omega)
  have d300 : decide ((300 : Int) ≤ m) = true := decide_eq_true (by omega)
  clear hk h8 h3
  clear ht hr h
  rcases hcs with rfl | ⟨e1, rfl⟩ | ⟨e1, e3, e7⟩
  all_goals
    go_enter Tryz.func34, Tryz.ntmps34
    go_wp2_with fail
    refine (c_rd_kind L E b p m flt0 _ (by omega) (HRd.out.below bel)).mono ?_
    rintro e w1 ⟨rfl, hb1⟩
    rw [← HT.out]
    have HB1 := Lib.hid (bel : Below w.heap.size w w1)
    have HT1 := Lib.hid ((hb1.block w.heap.size (by simp)).trans (heap_at (w := w) (o := .cells #[.int .i64 0, .bool false, .int .i64 0, .string ⟨#[]⟩, .slice none 0 0, .slice none 0 0] 27) rfl))
    have HR1 := Lib.hid (HRd.out.below HB1.out)
    have hl1 := row_lt HT1.out
    obtain ⟨A, c, hbx, -, -⟩ := HR1.out
    unfold rdC at hbx
    obtain ⟨a0, a1, a2, a3, a4, a5, a6, af⟩ := row7r hbx
    have l1 := row_lt hbx
    clear hbx hb1
    go_wp2_with fail
    refine (c_rd_fail_new L E 7 b p m flt0 _ (by omega) HR1.out rfl).mono ?_
    rintro e w2 ⟨rfl, hR2, hA2⟩
    have HR2 := Lib.hid hR2
    have HA2 := Lib.hid hA2
    have HT2 := Lib.hid ((hA2.block _ hl1 hnb).trans HT1.out)
    have hl2 := row_lt HT2.out
    clear a0 a1 a2 a3 a4 a5 a6 af hR2 hA2
    obtain ⟨A2, c2, hbx, -, -⟩ := HR2.out
    unfold rdC at hbx
    obtain ⟨a0, a1, a2, a3, a4, a5, a6, af⟩ := row7r hbx
    obtain ⟨x0, x1, x2, x3, x4, x5, xf⟩ := row6 HT2.out
    have l2 := row_lt hbx
    have hc4 : (badF L E 7 p).code = 7 := rfl
    rw [hc4] at a4
    clear hbx hc4
    go_wp2_with fail
    exact bodyPost_ret (v := .agg #[.int .i64 0, .bool false, .int .i64 0, .string ⟨#[]⟩, .slice none 0 0, .slice none 0 0]) (by simp only [results, Tryz.results34]; go_simp) rfl (ValE.bad HR.out (BadT.close ⟨0, false, 0, ⟨#[]⟩, none, 0, 0, none, 0, 0, p, m, rfl, HR2.out, hpl, HA2.out⟩ (Aside.of_below HB1.out) (by repeat (first | (with_reducible exact Aside.refl _ _) | ((with_reducible refine aside_set ?_ ?_); (focus (simp; done))) | (with_reducible refine aside_alloc ?_))) hlb))
set_option maxHeartbeats 8000000 in
set_option maxRecDepth 20000 in
theorem c_val_text (L : List SignD) (E : Int) (b n d p m : Nat) (x : SignD) (w : World) (hL : SgOk L) (hx : L[p]? = some x) (hk : x.kind = 7) (hd8 : ¬ 8 < d) (hm3 : ¬ 300 ≤ m) (h : RdAt L E b p m flt0 w) (hsz : ¬ 400 < x.text.size) :
    Calls Tryz.prog 34 #[.pointer (some ⟨b, 0, none⟩), .int .i64 d] w (ValE (RdAt L E b) b L.length (10 - d) (readJ L E (n + 1) (.value d) p m) w) := by
  have HRd := Lib.hid h
  have hlb := h.lt
  have hlen := hL.len
  have hpl : p < L.length := (List.getElem?_eq_some_iff.1 hx).1
  have hz0 : (0 : Int) ≤ p := by omega
  have hz1 : (p : Int) < L.length := by omega
  have hnb : ¬ w.heap.size = b := by omega
  obtain ⟨r, hr⟩ : ∃ r, r = readJ L E (n + 1) (.value d) p m := ⟨_, rfl⟩
  obtain ⟨nd, hnd⟩ : ∃ k, 10 - d = k + 1 := ⟨9 - d, by omega⟩
  rw [← hr, hnd]
  have hkk : kindAt L p = 7 := (kindAt_some hx).trans hk
  rw [readJ_go hx (by rw [hkk]; decide) hd8 hm3] at hr
  have HK := Lib.hid hkk
  have HX := Lib.hid hx
  have HN := Lib.hid hnd
  have htx := hL.text p x hx
  have hnx := hL.num p x hx
  unfold I64 at hnx
  obtain ⟨hnx1, hnx2⟩ := hnx
  have d8 : decide ((8 : Int) < d) = false := decide_eq_false (by omega)
  have d300 : decide ((300 : Int) ≤ m) = false := decide_eq_false (by omega)
  have hm9 : (m : Int) ≤ 300 := by omega
  rw [if_pos hk, if_neg hsz] at hr
  have HR := Lib.hid hr
  have dsz : decide ((400 : Int) < x.text.size) = false := decide_eq_false (by omega)
  clear hr h hx hkk hk hnd hd8 hm3
  go_enter Tryz.func34, Tryz.ntmps34
  go_wp2_with fail
  refine (c_rd_kind L E b p m flt0 _ (by omega) (HRd.out.below bel)).mono ?_
  rintro e w1 ⟨rfl, hb1⟩
  rw [HK.out]
  have HB1 := Lib.hid (bel : Below w.heap.size w w1)
  have HT1 := Lib.hid ((hb1.block w.heap.size (by simp)).trans (heap_at (w := w) (o := .cells #[.int .i64 0, .bool false, .int .i64 0, .string ⟨#[]⟩, .slice none 0 0, .slice none 0 0] 27) rfl))
  have HR1 := Lib.hid (HRd.out.below HB1.out)
  have hl1 := row_lt HT1.out
  obtain ⟨A, c, hbx, -, -⟩ := HR1.out
  unfold rdC at hbx
  obtain ⟨a0, a1, a2, a3, a4, a5, a6, af⟩ := row7r hbx
  have l1 := row_lt hbx
  have a4' : w1.cell? ⟨b, 4, none⟩ = some (.int .i64 0) := a4
  clear hbx hb1 a4
  go_upto_region 11 with fail
  obtain ⟨w2, hw2⟩ : ∃ W, W = w1.setCell ⟨b, 3, none⟩ (.int .i64 ((m : Int) + 1)) := ⟨_, rfl⟩
  have hA2 : Aside (fun q => q = b) w1 w2 := by rw [hw2]; exact aside_set rfl (Aside.refl _ _)
  have hR2 : RdAt L E b p (m + 1) flt0 w2 := RdAt.poke HR1.out hA2 (fun A c h => by rw [hw2]; unfold rdC at h ⊢; exact set7_3 h)
  rw [← hw2]
  have HR2 := Lib.hid hR2
  have HA2 := Lib.hid hA2
  have HT2 := Lib.hid ((hA2.block _ hl1 hnb).trans HT1.out)
  have hl2 := row_lt HT2.out
  clear a0 a1 a2 a3 a4' a5 a6 af hR2 hA2 hw2
  obtain ⟨A2, c2, hbx, hrow, -⟩ := HR2.out
  unfold rdC at hbx
  obtain ⟨a0, a1, a2, a3, a4, a5, a6, af⟩ := row7r hbx
  have l2 := row_lt hbx
  obtain ⟨g, y, rfl, hy, hlc, lg, s0, s1, s2, s3⟩ := sign_row (p := p) hrow hpl
  obtain rfl : y = x := Option.some.inj (hy.symm.trans HX.out)
  clear hbx hrow hy
  go_cut [6] from 49 to 58 (fun s6 wx => s6 = .pointer (some ⟨w2.heap.size, 0, none⟩) ∧ wx.heap[w2.heap.size]? = some (.cells #[.int .i64 y.kind, .string y.text, .int .i64 y.num, .int .i64 y.at'] 54 (0, 0)) ∧ Below w2.heap.size w2 wx)
  case first =>
    go_region_law (fail)
    all_goals
      go_wp2_with fail
      go_meet
      exact ⟨rfl, heap_at (by simp), bel⟩
  case rest =>
    obtain ⟨rfl, hXr, hBc⟩ := hcut
    have HXr := Lib.hid hXr
    have HBc := Lib.hid hBc
    have HRc := Lib.hid (HR2.out.below hBc)
    have HTc := Lib.hid ((hBc.block _ hl2).trans HT2.out)
    have hl3 := row_lt HTc.out
    have hl3x := row_lt hXr
    have hnx3 : ¬ w2.heap.size = b := by omega
    have hnxt : ¬ w2.heap.size = w.heap.size := by omega
    clear a0 a1 a2 a3 a4 a5 a6 af s0 s1 s2 s3 hXr hBc
    obtain ⟨A3, c3, hbx, -, -⟩ := HRc.out
    unfold rdC at hbx
    obtain ⟨a0, a1, a2, a3, a4, a5, a6, af⟩ := row7r hbx
    have l3 := row_lt hbx
    obtain ⟨y0, y1, y2, y3, yf⟩ := row4 HXr.out
    clear hbx
    go_upto_region 15 with fail
    obtain ⟨w3, hw3⟩ : ∃ W, W = wc.setCell ⟨b, 1, none⟩ (.int .i64 ((p : Int) + 1)) := ⟨_, rfl⟩
    have hA3 : Aside (fun q => q = b) wc w3 := by rw [hw3]; exact aside_set rfl (Aside.refl _ _)
    have hR3 : RdAt L E b (p + 1) (m + 1) flt0 w3 := RdAt.poke HRc.out hA3 (fun A c h => by rw [hw3]; unfold rdC at h ⊢; exact set7_1 h)
    rw [← hw3]
    have HR3 := Lib.hid hR3
    have HT3 := Lib.hid ((hA3.block _ (row_lt HTc.out) hnb).trans HTc.out)
    have HX3 := Lib.hid ((hA3.block _ (row_lt HXr.out) hnx3).trans HXr.out)
    have HAw := Lib.hid (show Aside (fun q => q = b ∨ w.heap.size ≤ q) w w3 from (Aside.of_below HB1.out).trans ((HA2.out.mono (fun q h => .inl h)).trans ((Aside.of_below HBc.out).trans ((Aside.refl _ wc).trans (hA3.mono (fun q h => .inl h))))))
    have hl4 := row_lt HT3.out
    have hl4x := row_lt HX3.out
    have hl4b := hR3.lt
    clear a0 a1 a2 a3 a4 a5 a6 af y0 y1 y2 y3 yf hR3 hA3 hw3
    obtain ⟨z0, z1, z2, z3, zf⟩ := row4 HX3.out
    obtain ⟨x0, x1, x2, x3, x4, x5, xf⟩ := row6 HT3.out
    go_wp2_with fail
    refine (c_rd_TextTree y.text _).mono ?_
    rintro e w9 ⟨rfl, hb9⟩
    have HB9 := Lib.hid hb9
    have HT9 := Lib.hid ((hb9.block _ hl4).trans HT3.out)
    have hl9 := row_lt HT9.out
    clear x0 x1 x2 x3 x4 x5 xf z0 z1 z2 z3 zf hb9
    obtain ⟨x0, x1, x2, x3, x4, x5, xf⟩ := row6 HT9.out
    go_wp2_with fail
    exact bodyPost_ret (v := .agg #[.int .i64 4, .bool false, .int .i64 0, .string y.text, .slice none 0 0, .slice none 0 0]) (by simp only [results, Tryz.results34]; go_simp) rfl (ValE.good HR.out (GoodT.close (w3 := w3) ⟨[.int .i64 4, .bool false, .int .i64 0, .string y.text, .slice none 0 0, .slice none 0 0], rfl, own_leaf (by unfold I64; decide) (by unfold I64; decide) (by omega), HR3.out.below HB9.out, Aside.of_below HB9.out⟩ HAw.out (by repeat (first | (with_reducible exact Aside.refl _ _) | ((with_reducible refine aside_set ?_ ?_); (focus (simp; done))) | (with_reducible refine aside_alloc ?_))) (by omega) hlb))
set_option maxHeartbeats 8000000 in
set_option maxRecDepth 20000 in
theorem c_val_num (L : List SignD) (E : Int) (b n d p m : Nat) (x : SignD) (w : World) (hL : SgOk L) (hx : L[p]? = some x) (hk : x.kind = 8) (hd8 : ¬ 8 < d) (hm3 : ¬ 300 ≤ m) (h : RdAt L E b p m flt0 w) :
    Calls Tryz.prog 34 #[.pointer (some ⟨b, 0, none⟩), .int .i64 d] w (ValE (RdAt L E b) b L.length (10 - d) (readJ L E (n + 1) (.value d) p m) w) := by
  have HRd := Lib.hid h
  have hlb := h.lt
  have hlen := hL.len
  have hpl : p < L.length := (List.getElem?_eq_some_iff.1 hx).1
  have hz0 : (0 : Int) ≤ p := by omega
  have hz1 : (p : Int) < L.length := by omega
  have hnb : ¬ w.heap.size = b := by omega
  obtain ⟨r, hr⟩ : ∃ r, r = readJ L E (n + 1) (.value d) p m := ⟨_, rfl⟩
  obtain ⟨nd, hnd⟩ : ∃ k, 10 - d = k + 1 := ⟨9 - d, by omega⟩
  rw [← hr, hnd]
  have hkk : kindAt L p = 8 := (kindAt_some hx).trans hk
  rw [readJ_go hx (by rw [hkk]; decide) hd8 hm3] at hr
  have HK := Lib.hid hkk
  have HX := Lib.hid hx
  have HN := Lib.hid hnd
  have htx := hL.text p x hx
  have hnx := hL.num p x hx
  unfold I64 at hnx
  obtain ⟨hnx1, hnx2⟩ := hnx
  have d8 : decide ((8 : Int) < d) = false := decide_eq_false (by omega)
  have d300 : decide ((300 : Int) ≤ m) = false := decide_eq_false (by omega)
  have hm9 : (m : Int) ≤ 300 := by omega
  rw [if_neg (by rw [hk]; decide), if_pos hk] at hr
  have HR := Lib.hid hr
  clear hr h hx hkk hk hnd hd8 hm3
  go_enter Tryz.func34, Tryz.ntmps34
  go_wp2_with fail
  refine (c_rd_kind L E b p m flt0 _ (by omega) (HRd.out.below bel)).mono ?_
  rintro e w1 ⟨rfl, hb1⟩
  rw [HK.out]
  have HB1 := Lib.hid (bel : Below w.heap.size w w1)
  have HT1 := Lib.hid ((hb1.block w.heap.size (by simp)).trans (heap_at (w := w) (o := .cells #[.int .i64 0, .bool false, .int .i64 0, .string ⟨#[]⟩, .slice none 0 0, .slice none 0 0] 27) rfl))
  have HR1 := Lib.hid (HRd.out.below HB1.out)
  have hl1 := row_lt HT1.out
  obtain ⟨A, c, hbx, -, -⟩ := HR1.out
  unfold rdC at hbx
  obtain ⟨a0, a1, a2, a3, a4, a5, a6, af⟩ := row7r hbx
  have l1 := row_lt hbx
  have a4' : w1.cell? ⟨b, 4, none⟩ = some (.int .i64 0) := a4
  clear hbx hb1 a4
  go_upto_region 11 with fail
  obtain ⟨w2, hw2⟩ : ∃ W, W = w1.setCell ⟨b, 3, none⟩ (.int .i64 ((m : Int) + 1)) := ⟨_, rfl⟩
  have hA2 : Aside (fun q => q = b) w1 w2 := by rw [hw2]; exact aside_set rfl (Aside.refl _ _)
  have hR2 : RdAt L E b p (m + 1) flt0 w2 := RdAt.poke HR1.out hA2 (fun A c h => by rw [hw2]; unfold rdC at h ⊢; exact set7_3 h)
  rw [← hw2]
  have HR2 := Lib.hid hR2
  have HA2 := Lib.hid hA2
  have HT2 := Lib.hid ((hA2.block _ hl1 hnb).trans HT1.out)
  have hl2 := row_lt HT2.out
  clear a0 a1 a2 a3 a4' a5 a6 af hR2 hA2 hw2
  obtain ⟨A2, c2, hbx, hrow, -⟩ := HR2.out
  unfold rdC at hbx
  obtain ⟨a0, a1, a2, a3, a4, a5, a6, af⟩ := row7r hbx
  have l2 := row_lt hbx
  obtain ⟨g, y, rfl, hy, hlc, lg, s0, s1, s2, s3⟩ := sign_row (p := p) hrow hpl
  obtain rfl : y = x := Option.some.inj (hy.symm.trans HX.out)
  clear hbx hrow hy
  go_cut [6] from 49 to 58 (fun s6 wx => s6 = .pointer (some ⟨w2.heap.size, 0, none⟩) ∧ wx.heap[w2.heap.size]? = some (.cells #[.int .i64 y.kind, .string y.text, .int .i64 y.num, .int .i64 y.at'] 54 (0, 0)) ∧ Below w2.heap.size w2 wx)
  case first =>
    go_region_law (fail)
    all_goals
      go_wp2_with fail
      go_meet
      exact ⟨rfl, heap_at (by simp), bel⟩
  case rest =>
    obtain ⟨rfl, hXr, hBc⟩ := hcut
    have HXr := Lib.hid hXr
    have HBc := Lib.hid hBc
    have HRc := Lib.hid (HR2.out.below hBc)
    have HTc := Lib.hid ((hBc.block _ hl2).trans HT2.out)
    have hl3 := row_lt HTc.out
    have hl3x := row_lt hXr
    have hnx3 : ¬ w2.heap.size = b := by omega
    have hnxt : ¬ w2.heap.size = w.heap.size := by omega
    clear a0 a1 a2 a3 a4 a5 a6 af s0 s1 s2 s3 hXr hBc
    obtain ⟨A3, c3, hbx, -, -⟩ := HRc.out
    unfold rdC at hbx
    obtain ⟨a0, a1, a2, a3, a4, a5, a6, af⟩ := row7r hbx
    have l3 := row_lt hbx
    obtain ⟨y0, y1, y2, y3, yf⟩ := row4 HXr.out
    clear hbx
    go_upto_region 15 with fail
    obtain ⟨w3, hw3⟩ : ∃ W, W = wc.setCell ⟨b, 1, none⟩ (.int .i64 ((p : Int) + 1)) := ⟨_, rfl⟩
    have hA3 : Aside (fun q => q = b) wc w3 := by rw [hw3]; exact aside_set rfl (Aside.refl _ _)
    have hR3 : RdAt L E b (p + 1) (m + 1) flt0 w3 := RdAt.poke HRc.out hA3 (fun A c h => by rw [hw3]; unfold rdC at h ⊢; exact set7_1 h)
    rw [← hw3]
    have HR3 := Lib.hid hR3
    have HT3 := Lib.hid ((hA3.block _ (row_lt HTc.out) hnb).trans HTc.out)
    have HX3 := Lib.hid ((hA3.block _ (row_lt HXr.out) hnx3).trans HXr.out)
    have HAw := Lib.hid (show Aside (fun q => q = b ∨ w.heap.size ≤ q) w w3 from (Aside.of_below HB1.out).trans ((HA2.out.mono (fun q h => .inl h)).trans ((Aside.of_below HBc.out).trans ((Aside.refl _ wc).trans (hA3.mono (fun q h => .inl h))))))
    have hl4 := row_lt HT3.out
    have hl4x := row_lt HX3.out
    have hl4b := hR3.lt
    clear a0 a1 a2 a3 a4 a5 a6 af y0 y1 y2 y3 yf hR3 hA3 hw3
    obtain ⟨z0, z1, z2, z3, zf⟩ := row4 HX3.out
    obtain ⟨x0, x1, x2, x3, x4, x5, xf⟩ := row6 HT3.out
    go_wp2_with fail
    refine (c_rd_IntTree y.num _).mono ?_
    rintro e w9 ⟨rfl, hb9⟩
    have HB9 := Lib.hid hb9
    have HT9 := Lib.hid ((hb9.block _ hl4).trans HT3.out)
    have hl9 := row_lt HT9.out
    clear x0 x1 x2 x3 x4 x5 xf z0 z1 z2 z3 zf hb9
    obtain ⟨x0, x1, x2, x3, x4, x5, xf⟩ := row6 HT9.out
    go_wp2_with fail
    exact bodyPost_ret (v := .agg #[.int .i64 3, .bool false, .int .i64 y.num, .string ⟨#[]⟩, .slice none 0 0, .slice none 0 0]) (by simp only [results, Tryz.results34]; go_simp) rfl (ValE.good HR.out (GoodT.close (w3 := w3) ⟨[.int .i64 3, .bool false, .int .i64 y.num, .string ⟨#[]⟩, .slice none 0 0, .slice none 0 0], rfl, own_leaf (by unfold I64; decide) (by unfold I64; omega) (by decide), HR3.out.below HB9.out, Aside.of_below HB9.out⟩ HAw.out (by repeat (first | (with_reducible exact Aside.refl _ _) | ((with_reducible refine aside_set ?_ ?_); (focus (simp; done))) | (with_reducible refine aside_alloc ?_))) (by omega) hlb))
set_option maxHeartbeats 8000000 in
set_option maxRecDepth 20000 in
theorem c_val_null (L : List SignD) (E : Int) (b n d p m : Nat) (x : SignD) (w : World) (hL : SgOk L) (hx : L[p]? = some x) (hk : x.kind = 11) (hd8 : ¬ 8 < d) (hm3 : ¬ 300 ≤ m) (h : RdAt L E b p m flt0 w) :
    Calls Tryz.prog 34 #[.pointer (some ⟨b, 0, none⟩), .int .i64 d] w (ValE (RdAt L E b) b L.length (10 - d) (readJ L E (n + 1) (.value d) p m) w) := by
  have HRd := Lib.hid h
  have hlb := h.lt
  have hlen := hL.len
  have hpl : p < L.length := (List.getElem?_eq_some_iff.1 hx).1
  have hz0 : (0 : Int) ≤ p := by omega
  have hz1 : (p : Int) < L.length := by omega
  have hnb : ¬ w.heap.size = b := by omega
  obtain ⟨r, hr⟩ : ∃ r, r = readJ L E (n + 1) (.value d) p m := ⟨_, rfl⟩
  obtain ⟨nd, hnd⟩ : ∃ k, 10 - d = k + 1 := ⟨9 - d, by omega⟩
  rw [← hr, hnd]
  have hkk : kindAt L p = 11 := (kindAt_some hx).trans hk
  rw [readJ_go hx (by rw [hkk]; decide) hd8 hm3] at hr
  have HK := Lib.hid hkk
  have HX := Lib.hid hx
  have HN := Lib.hid hnd
  have htx := hL.text p x hx
  have hnx := hL.num p x hx
  unfold I64 at hnx
  obtain ⟨hnx1, hnx2⟩ := hnx
  have d8 : decide ((8 : Int) < d) = false := decide_eq_false (by omega)
  have d300 : decide ((300 : Int) ≤ m) = false := decide_eq_false (by omega)
  have hm9 : (m : Int) ≤ 300 := by omega
  rw [if_neg (by rw [hk]; decide), if_neg (by rw [hk]; decide), if_pos hk] at hr
  have HR := Lib.hid hr
  clear hr h hx hkk hk hnd hd8 hm3
  go_enter Tryz.func34, Tryz.ntmps34
  go_wp2_with fail
  refine (c_rd_kind L E b p m flt0 _ (by omega) (HRd.out.below bel)).mono ?_
  rintro e w1 ⟨rfl, hb1⟩
  rw [HK.out]
  have HB1 := Lib.hid (bel : Below w.heap.size w w1)
  have HT1 := Lib.hid ((hb1.block w.heap.size (by simp)).trans (heap_at (w := w) (o := .cells #[.int .i64 0, .bool false, .int .i64 0, .string ⟨#[]⟩, .slice none 0 0, .slice none 0 0] 27) rfl))
  have HR1 := Lib.hid (HRd.out.below HB1.out)
  have hl1 := row_lt HT1.out
  obtain ⟨A, c, hbx, -, -⟩ := HR1.out
  unfold rdC at hbx
  obtain ⟨a0, a1, a2, a3, a4, a5, a6, af⟩ := row7r hbx
  have l1 := row_lt hbx
  have a4' : w1.cell? ⟨b, 4, none⟩ = some (.int .i64 0) := a4
  clear hbx hb1 a4
  go_upto_region 11 with fail
  obtain ⟨w2, hw2⟩ : ∃ W, W = w1.setCell ⟨b, 3, none⟩ (.int .i64 ((m : Int) + 1)) := ⟨_, rfl⟩
  have hA2 : Aside (fun q => q = b) w1 w2 := by rw [hw2]; exact aside_set rfl (Aside.refl _ _)
  have hR2 : RdAt L E b p (m + 1) flt0 w2 := RdAt.poke HR1.out hA2 (fun A c h => by rw [hw2]; unfold rdC at h ⊢; exact set7_3 h)
  rw [← hw2]
  have HR2 := Lib.hid hR2
  have HA2 := Lib.hid hA2
  have HT2 := Lib.hid ((hA2.block _ hl1 hnb).trans HT1.out)
  have hl2 := row_lt HT2.out
  clear a0 a1 a2 a3 a4' a5 a6 af hR2 hA2 hw2
  obtain ⟨A2, c2, hbx, hrow, -⟩ := HR2.out
  unfold rdC at hbx
  obtain ⟨a0, a1, a2, a3, a4, a5, a6, af⟩ := row7r hbx
  have l2 := row_lt hbx
  obtain ⟨g, y, rfl, hy, hlc, lg, s0, s1, s2, s3⟩ := sign_row (p := p) hrow hpl
  obtain rfl : y = x := Option.some.inj (hy.symm.trans HX.out)
  clear hbx hrow hy
  go_cut [6] from 49 to 58 (fun s6 wx => s6 = .pointer (some ⟨w2.heap.size, 0, none⟩) ∧ wx.heap[w2.heap.size]? = some (.cells #[.int .i64 y.kind, .string y.text, .int .i64 y.num, .int .i64 y.at'] 54 (0, 0)) ∧ Below w2.heap.size w2 wx)
  case first =>
    go_region_law (fail)
    all_goals
      go_wp2_with fail
      go_meet
      exact ⟨rfl, heap_at (by simp), bel⟩
  case rest =>
    obtain ⟨rfl, hXr, hBc⟩ := hcut
    have HXr := Lib.hid hXr
    have HBc := Lib.hid hBc
    have HRc := Lib.hid (HR2.out.below hBc)
    have HTc := Lib.hid ((hBc.block _ hl2).trans HT2.out)
    have hl3 := row_lt HTc.out
    have hl3x := row_lt hXr
    have hnx3 : ¬ w2.heap.size = b := by omega
    have hnxt : ¬ w2.heap.size = w.heap.size := by omega
    clear a0 a1 a2 a3 a4 a5 a6 af s0 s1 s2 s3 hXr hBc
    obtain ⟨A3, c3, hbx, -, -⟩ := HRc.out
    unfold rdC at hbx
    obtain ⟨a0, a1, a2, a3, a4, a5, a6, af⟩ := row7r hbx
    have l3 := row_lt hbx
    obtain ⟨y0, y1, y2, y3, yf⟩ := row4 HXr.out
    clear hbx
    go_upto_region 15 with fail
    obtain ⟨w3, hw3⟩ : ∃ W, W = wc.setCell ⟨b, 1, none⟩ (.int .i64 ((p : Int) + 1)) := ⟨_, rfl⟩
    have hA3 : Aside (fun q => q = b) wc w3 := by rw [hw3]; exact aside_set rfl (Aside.refl _ _)
    have hR3 : RdAt L E b (p + 1) (m + 1) flt0 w3 := RdAt.poke HRc.out hA3 (fun A c h => by rw [hw3]; unfold rdC at h ⊢; exact set7_1 h)
    rw [← hw3]
    have HR3 := Lib.hid hR3
    have HT3 := Lib.hid ((hA3.block _ (row_lt HTc.out) hnb).trans HTc.out)
    have HX3 := Lib.hid ((hA3.block _ (row_lt HXr.out) hnx3).trans HXr.out)
    have HAw := Lib.hid (show Aside (fun q => q = b ∨ w.heap.size ≤ q) w w3 from (Aside.of_below HB1.out).trans ((HA2.out.mono (fun q h => .inl h)).trans ((Aside.of_below HBc.out).trans ((Aside.refl _ wc).trans (hA3.mono (fun q h => .inl h))))))
    have hl4 := row_lt HT3.out
    have hl4x := row_lt HX3.out
    have hl4b := hR3.lt
    clear a0 a1 a2 a3 a4 a5 a6 af y0 y1 y2 y3 yf hR3 hA3 hw3
    obtain ⟨z0, z1, z2, z3, zf⟩ := row4 HX3.out
    obtain ⟨x0, x1, x2, x3, x4, x5, xf⟩ := row6 HT3.out
    go_wp2_with fail
    exact bodyPost_ret (v := .agg #[.int .i64 1, .bool false, .int .i64 0, .string ⟨#[]⟩, .slice none 0 0, .slice none 0 0]) (by simp only [results, Tryz.results34]; go_simp) rfl (ValE.good HR.out (GoodT.close (w3 := w3) ⟨[.int .i64 1, .bool false, .int .i64 0, .string ⟨#[]⟩, .slice none 0 0, .slice none 0 0], rfl, own_leaf (by unfold I64; decide) (by unfold I64; decide) (by decide), HR3.out, Aside.refl _ _⟩ HAw.out (by repeat (first | (with_reducible exact Aside.refl _ _) | ((with_reducible refine aside_set ?_ ?_); (focus (simp; done))) | (with_reducible refine aside_alloc ?_))) (by omega) hlb))
set_option maxHeartbeats 8000000 in
set_option maxRecDepth 20000 in
theorem c_val_true (L : List SignD) (E : Int) (b n d p m : Nat) (x : SignD) (w : World) (hL : SgOk L) (hx : L[p]? = some x) (hk : x.kind = 9) (hd8 : ¬ 8 < d) (hm3 : ¬ 300 ≤ m) (h : RdAt L E b p m flt0 w) :
    Calls Tryz.prog 34 #[.pointer (some ⟨b, 0, none⟩), .int .i64 d] w (ValE (RdAt L E b) b L.length (10 - d) (readJ L E (n + 1) (.value d) p m) w) := by
  have HRd := Lib.hid h
  have hlb := h.lt
  have hlen := hL.len
  have hpl : p < L.length := (List.getElem?_eq_some_iff.1 hx).1
  have hz0 : (0 : Int) ≤ p := by omega
  have hz1 : (p : Int) < L.length := by omega
  have hnb : ¬ w.heap.size = b := by omega
  obtain ⟨r, hr⟩ : ∃ r, r = readJ L E (n + 1) (.value d) p m := ⟨_, rfl⟩
  obtain ⟨nd, hnd⟩ : ∃ k, 10 - d = k + 1 := ⟨9 - d, by omega⟩
  rw [← hr, hnd]
  have hkk : kindAt L p = 9 := (kindAt_some hx).trans hk
  rw [readJ_go hx (by rw [hkk]; decide) hd8 hm3] at hr
  have HK := Lib.hid hkk
  have HX := Lib.hid hx
  have HN := Lib.hid hnd
  have htx := hL.text p x hx
  have hnx := hL.num p x hx
  unfold I64 at hnx
  obtain ⟨hnx1, hnx2⟩ := hnx
  have d8 : decide ((8 : Int) < d) = false := decide_eq_false (by omega)
  have d300 : decide ((300 : Int) ≤ m) = false := decide_eq_false (by omega)
  have hm9 : (m : Int) ≤ 300 := by omega
  rw [if_neg (by rw [hk]; decide), if_neg (by rw [hk]; decide), if_neg (by rw [hk]; decide), if_neg (by rw [hk]; decide), if_neg (by rw [hk]; decide), show (x.kind == 9) = true by rw [hk]; rfl] at hr
  have HR := Lib.hid hr
  clear hr h hx hkk hk hnd hd8 hm3
  go_enter Tryz.func34, Tryz.ntmps34
  go_wp2_with fail
  refine (c_rd_kind L E b p m flt0 _ (by omega) (HRd.out.below bel)).mono ?_
  rintro e w1 ⟨rfl, hb1⟩
  rw [HK.out]
  have HB1 := Lib.hid (bel : Below w.heap.size w w1)
  have HT1 := Lib.hid ((hb1.block w.heap.size (by simp)).trans (heap_at (w := w) (o := .cells #[.int .i64 0, .bool false, .int .i64 0, .string ⟨#[]⟩, .slice none 0 0, .slice none 0 0] 27) rfl))
  have HR1 := Lib.hid (HRd.out.below HB1.out)
  have hl1 := row_lt HT1.out
  obtain ⟨A, c, hbx, -, -⟩ := HR1.out
  unfold rdC at hbx
  obtain ⟨a0, a1, a2, a3, a4, a5, a6, af⟩ := row7r hbx
  have l1 := row_lt hbx
  have a4' : w1.cell? ⟨b, 4, none⟩ = some (.int .i64 0) := a4
  clear hbx hb1 a4
  go_upto_region 11 with fail
  obtain ⟨w2, hw2⟩ : ∃ W, W = w1.setCell ⟨b, 3, none⟩ (.int .i64 ((m : Int) + 1)) := ⟨_, rfl⟩
  have hA2 : Aside (fun q => q = b) w1 w2 := by rw [hw2]; exact aside_set rfl (Aside.refl _ _)
  have hR2 : RdAt L E b p (m + 1) flt0 w2 := RdAt.poke HR1.out hA2 (fun A c h => by rw [hw2]; unfold rdC at h ⊢; exact set7_3 h)
  rw [← hw2]
  have HR2 := Lib.hid hR2
  have HA2 := Lib.hid hA2
  have HT2 := Lib.hid ((hA2.block _ hl1 hnb).trans HT1.out)
  have hl2 := row_lt HT2.out
  clear a0 a1 a2 a3 a4' a5 a6 af hR2 hA2 hw2
  obtain ⟨A2, c2, hbx, hrow, -⟩ := HR2.out
  unfold rdC at hbx
  obtain ⟨a0, a1, a2, a3, a4, a5, a6, af⟩ := row7r hbx
  have l2 := row_lt hbx
  obtain ⟨g, y, rfl, hy, hlc, lg, s0, s1, s2, s3⟩ := sign_row (p := p) hrow hpl
  obtain rfl : y = x := Option.some.inj (hy.symm.trans HX.out)
  clear hbx hrow hy
  go_cut [6] from 49 to 58 (fun s6 wx => s6 = .pointer (some ⟨w2.heap.size, 0, none⟩) ∧ wx.heap[w2.heap.size]? = some (.cells #[.int .i64 y.kind, .string y.text, .int .i64 y.num, .int .i64 y.at'] 54 (0, 0)) ∧ Below w2.heap.size w2 wx)
  case first =>
    go_region_law (fail)
    all_goals
      go_wp2_with fail
      go_meet
      exact ⟨rfl, heap_at (by simp), bel⟩
  case rest =>
    obtain ⟨rfl, hXr, hBc⟩ := hcut
    have HXr := Lib.hid hXr
    have HBc := Lib.hid hBc
    have HRc := Lib.hid (HR2.out.below hBc)
    have HTc := Lib.hid ((hBc.block _ hl2).trans HT2.out)
    have hl3 := row_lt HTc.out
    have hl3x := row_lt hXr
    have hnx3 : ¬ w2.heap.size = b := by omega
    have hnxt : ¬ w2.heap.size = w.heap.size := by omega
    clear a0 a1 a2 a3 a4 a5 a6 af s0 s1 s2 s3 hXr hBc
    obtain ⟨A3, c3, hbx, -, -⟩ := HRc.out
    unfold rdC at hbx
    obtain ⟨a0, a1, a2, a3, a4, a5, a6, af⟩ := row7r hbx
    have l3 := row_lt hbx
    obtain ⟨y0, y1, y2, y3, yf⟩ := row4 HXr.out
    clear hbx
    go_upto_region 15 with fail
    obtain ⟨w3, hw3⟩ : ∃ W, W = wc.setCell ⟨b, 1, none⟩ (.int .i64 ((p : Int) + 1)) := ⟨_, rfl⟩
    have hA3 : Aside (fun q => q = b) wc w3 := by rw [hw3]; exact aside_set rfl (Aside.refl _ _)
    have hR3 : RdAt L E b (p + 1) (m + 1) flt0 w3 := RdAt.poke HRc.out hA3 (fun A c h => by rw [hw3]; unfold rdC at h ⊢; exact set7_1 h)
    rw [← hw3]
    have HR3 := Lib.hid hR3
    have HT3 := Lib.hid ((hA3.block _ (row_lt HTc.out) hnb).trans HTc.out)
    have HX3 := Lib.hid ((hA3.block _ (row_lt HXr.out) hnx3).trans HXr.out)
    have HAw := Lib.hid (show Aside (fun q => q = b ∨ w.heap.size ≤ q) w w3 from (Aside.of_below HB1.out).trans ((HA2.out.mono (fun q h => .inl h)).trans ((Aside.of_below HBc.out).trans ((Aside.refl _ wc).trans (hA3.mono (fun q h => .inl h))))))
    have hl4 := row_lt HT3.out
    have hl4x := row_lt HX3.out
    have hl4b := hR3.lt
    clear a0 a1 a2 a3 a4 a5 a6 af y0 y1 y2 y3 yf hR3 hA3 hw3
    obtain ⟨z0, z1, z2, z3, zf⟩ := row4 HX3.out
    obtain ⟨x0, x1, x2, x3, x4, x5, xf⟩ := row6 HT3.out
    go_wp2_with fail
    exact bodyPost_ret (v := .agg #[.int .i64 2, .bool true, .int .i64 0, .string ⟨#[]⟩, .slice none 0 0, .slice none 0 0]) (by simp only [results, Tryz.results34]; go_simp) rfl (ValE.good HR.out (GoodT.close (w3 := w3) ⟨[.int .i64 2, .bool true, .int .i64 0, .string ⟨#[]⟩, .slice none 0 0, .slice none 0 0], rfl, own_leaf (by unfold I64; decide) (by unfold I64; decide) (by decide), HR3.out, Aside.refl _ _⟩ HAw.out (by repeat (first | (with_reducible exact Aside.refl _ _) | ((with_reducible refine aside_set ?_ ?_); (focus (simp; done))) | (with_reducible refine aside_alloc ?_))) (by omega) hlb))
set_option maxHeartbeats 8000000 in
set_option maxRecDepth 20000 in
theorem c_val_false (L : List SignD) (E : Int) (b n d p m : Nat) (x : SignD) (w : World) (hL : SgOk L) (hx : L[p]? = some x) (hk : x.kind = 10) (hd8 : ¬ 8 < d) (hm3 : ¬ 300 ≤ m) (h : RdAt L E b p m flt0 w) :
    Calls Tryz.prog 34 #[.pointer (some ⟨b, 0, none⟩), .int .i64 d] w (ValE (RdAt L E b) b L.length (10 - d) (readJ L E (n + 1) (.value d) p m) w) := by
  have HRd := Lib.hid h
  have hlb := h.lt
  have hlen := hL.len
  have hpl : p < L.length := (List.getElem?_eq_some_iff.1 hx).1
  have hz0 : (0 : Int) ≤ p := by omega
  have hz1 : (p : Int) < L.length := by omega
  have hnb : ¬ w.heap.size = b := by omega
  obtain ⟨r, hr⟩ : ∃ r, r = readJ L E (n + 1) (.value d) p m := ⟨_, rfl⟩
  obtain ⟨nd, hnd⟩ : ∃ k, 10 - d = k + 1 := ⟨9 - d, by omega⟩
  rw [← hr, hnd]
  have hkk : kindAt L p = 10 := (kindAt_some hx).trans hk
  rw [readJ_go hx (by rw [hkk]; decide) hd8 hm3] at hr
  have HK := Lib.hid hkk
  have HX := Lib.hid hx
  have HN := Lib.hid hnd
  have htx := hL.text p x hx
  have hnx := hL.num p x hx
  unfold I64 at hnx
  obtain ⟨hnx1, hnx2⟩ := hnx
  have d8 : decide ((8 : Int) < d) = false := decide_eq_false (by omega)
  have d300 : decide ((300 : Int) ≤ m) = false := decide_eq_false (by omega)
  have hm9 : (m : Int) ≤ 300 := by omega
  rw [if_neg (by rw [hk]; decide), if_neg (by rw [hk]; decide), if_neg (by rw [hk]; decide), if_neg (by rw [hk]; decide), if_neg (by rw [hk]; decide), show (x.kind == 9) = false by rw [hk]; rfl] at hr
  have HR := Lib.hid hr
  clear hr h hx hkk hk hnd hd8 hm3
  go_enter Tryz.func34, Tryz.ntmps34
  go_wp2_with fail
  refine (c_rd_kind L E b p m flt0 _ (by omega) (HRd.out.below bel)).mono ?_
  rintro e w1 ⟨rfl, hb1⟩
  rw [HK.out]
  have HB1 := Lib.hid (bel : Below w.heap.size w w1)
  have HT1 := Lib.hid ((hb1.block w.heap.size (by simp)).trans (heap_at (w := w) (o := .cells #[.int .i64 0, .bool false, .int .i64 0, .string ⟨#[]⟩, .slice none 0 0, .slice none 0 0] 27) rfl))
  have HR1 := Lib.hid (HRd.out.below HB1.out)
  have hl1 := row_lt HT1.out
  obtain ⟨A, c, hbx, -, -⟩ := HR1.out
  unfold rdC at hbx
  obtain ⟨a0, a1, a2, a3, a4, a5, a6, af⟩ := row7r hbx
  have l1 := row_lt hbx
  have a4' : w1.cell? ⟨b, 4, none⟩ = some (.int .i64 0) := a4
  clear hbx hb1 a4
  go_upto_region 11 with fail
  obtain ⟨w2, hw2⟩ : ∃ W, W = w1.setCell ⟨b, 3, none⟩ (.int .i64 ((m : Int) + 1)) := ⟨_, rfl⟩
  have hA2 : Aside (fun q => q = b) w1 w2 := by rw [hw2]; exact aside_set rfl (Aside.refl _ _)
  have hR2 : RdAt L E b p (m + 1) flt0 w2 := RdAt.poke HR1.out hA2 (fun A c h => by rw [hw2]; unfold rdC at h ⊢; exact set7_3 h)
  rw [← hw2]
  have HR2 := Lib.hid hR2
  have HA2 := Lib.hid hA2
  have HT2 := Lib.hid ((hA2.block _ hl1 hnb).trans HT1.out)
  have hl2 := row_lt HT2.out
  clear a0 a1 a2 a3 a4' a5 a6 af hR2 hA2 hw2
  obtain ⟨A2, c2, hbx, hrow, -⟩ := HR2.out
  unfold rdC at hbx
  obtain ⟨a0, a1, a2, a3, a4, a5, a6, af⟩ := row7r hbx
  have l2 := row_lt hbx
  obtain ⟨g, y, rfl, hy, hlc, lg, s0, s1, s2, s3⟩ := sign_row (p := p) hrow hpl
  obtain rfl : y = x := Option.some.inj (hy.symm.trans HX.out)
  clear hbx hrow hy
  go_cut [6] from 49 to 58 (fun s6 wx => s6 = .pointer (some ⟨w2.heap.size, 0, none⟩) ∧ wx.heap[w2.heap.size]? = some (.cells #[.int .i64 y.kind, .string y.text, .int .i64 y.num, .int .i64 y.at'] 54 (0, 0)) ∧ Below w2.heap.size w2 wx)
  case first =>
    go_region_law (fail)
    all_goals
      go_wp2_with fail
      go_meet
      exact ⟨rfl, heap_at (by simp), bel⟩
  case rest =>
    obtain ⟨rfl, hXr, hBc⟩ := hcut
    have HXr := Lib.hid hXr
    have HBc := Lib.hid hBc
    have HRc := Lib.hid (HR2.out.below hBc)
    have HTc := Lib.hid ((hBc.block _ hl2).trans HT2.out)
    have hl3 := row_lt HTc.out
    have hl3x := row_lt hXr
    have hnx3 : ¬ w2.heap.size = b := by omega
    have hnxt : ¬ w2.heap.size = w.heap.size := by omega
    clear a0 a1 a2 a3 a4 a5 a6 af s0 s1 s2 s3 hXr hBc
    obtain ⟨A3, c3, hbx, -, -⟩ := HRc.out
    unfold rdC at hbx
    obtain ⟨a0, a1, a2, a3, a4, a5, a6, af⟩ := row7r hbx
    have l3 := row_lt hbx
    obtain ⟨y0, y1, y2, y3, yf⟩ := row4 HXr.out
    clear hbx
    go_upto_region 15 with fail
    obtain ⟨w3, hw3⟩ : ∃ W, W = wc.setCell ⟨b, 1, none⟩ (.int .i64 ((p : Int) + 1)) := ⟨_, rfl⟩
    have hA3 : Aside (fun q => q = b) wc w3 := by rw [hw3]; exact aside_set rfl (Aside.refl _ _)
    have hR3 : RdAt L E b (p + 1) (m + 1) flt0 w3 := RdAt.poke HRc.out hA3 (fun A c h => by rw [hw3]; unfold rdC at h ⊢; exact set7_1 h)
    rw [← hw3]
    have HR3 := Lib.hid hR3
    have HT3 := Lib.hid ((hA3.block _ (row_lt HTc.out) hnb).trans HTc.out)
    have HX3 := Lib.hid ((hA3.block _ (row_lt HXr.out) hnx3).trans HXr.out)
    have HAw := Lib.hid (show Aside (fun q => q = b ∨ w.heap.size ≤ q) w w3 from (Aside.of_below HB1.out).trans ((HA2.out.mono (fun q h => .inl h)).trans ((Aside.of_below HBc.out).trans ((Aside.refl _ wc).trans (hA3.mono (fun q h => .inl h))))))
    have hl4 := row_lt HT3.out
    have hl4x := row_lt HX3.out
    have hl4b := hR3.lt
    clear a0 a1 a2 a3 a4 a5 a6 af y0 y1 y2 y3 yf hR3 hA3 hw3
    obtain ⟨z0, z1, z2, z3, zf⟩ := row4 HX3.out
    obtain ⟨x0, x1, x2, x3, x4, x5, xf⟩ := row6 HT3.out
    go_wp2_with fail
    exact bodyPost_ret (v := .agg #[.int .i64 2, .bool false, .int .i64 0, .string ⟨#[]⟩, .slice none 0 0, .slice none 0 0]) (by simp only [results, Tryz.results34]; go_simp) rfl (ValE.good HR.out (GoodT.close (w3 := w3) ⟨[.int .i64 2, .bool false, .int .i64 0, .string ⟨#[]⟩, .slice none 0 0, .slice none 0 0], rfl, own_leaf (by unfold I64; decide) (by unfold I64; decide) (by decide), HR3.out, Aside.refl _ _⟩ HAw.out (by repeat (first | (with_reducible exact Aside.refl _ _) | ((with_reducible refine aside_set ?_ ?_); (focus (simp; done))) | (with_reducible refine aside_alloc ?_))) (by omega) hlb))
end Go.Proofs.YtffelpdefjkeaaaGreatDoor
