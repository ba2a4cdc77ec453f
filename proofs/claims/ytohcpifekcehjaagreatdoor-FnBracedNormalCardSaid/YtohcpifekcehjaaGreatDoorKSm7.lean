/- Steps to FnBracedNormal. No conditions. -/
import Derived.Test.YtohcpifekcehjaaGreatDoorKSm6
import Derived.Deep.RegionLaw
import Derived.Deep.CutBlock
import Derived.Deep.CutRange
import Derived.Lib.LazyBuf
set_option maxHeartbeats 16000000
set_option maxRecDepth 20000
namespace Go.Proofs.YtohcpifekcehjaaGreatDoor
open Go.RowKit Go.Lib
theorem set7_3 {w : World} {b : Nat} {a0 a1 a2 a3 a4 a5 a6 u : Value} {e : TypeId} (h : w.heap[b]? = some (.cells #[a0, a1, a2, a3, a4, a5, a6] e (0, 0))) : (w.setCell ⟨b, 3, none⟩ u).heap[b]? = some (.cells #[a0, a1, a2, u, a4, a5, a6] e (0, 0)) := heap_setCell_same w b 3 _ _ u h
theorem Aside.low {b : Nat} {a c : World} (h : Aside (fun q => q = b ∨ a.heap.size <= q) a c) : Aside (fun q => q = b) a c :=
 ⟨h.os, h.tape, h.output, h.size, fun i hi hn => h.block i hi (fun hq => hq.elim hn (fun hq => absurd hi (by omega)))⟩
theorem BadT.close {L : List SignD} {E : Int} {b N : Nat} {f : Flt} {w w3 w5 wF : World} {e : Ending} (h : BadT (RdAt L E b) b N f w3 e w5) (hA : Aside (fun q => q = b ∨ w.heap.size <= q) w w3) (hF : Aside (fun q => q = w.heap.size) w5 wF) (hb : b < w.heap.size) : BadT (RdAt L E b) b N f w e wF := by
 obtain ⟨k, fl, nu, t, A4, n4, c4, A5, n5, c5, p', m', h1, h2, h3, h4⟩ := h
 refine ⟨k, fl, nu, t, A4, n4, c4, A5, n5, c5, p', m', h1, h2.past hF (fun q hq => by omega), h3, ?_⟩
 exact Aside.low ((hA.join h4 (fun q hq _ => .inl hq)).join hF (fun q hq _ => .inr (by omega)))
theorem GoodT.close {L : List SignD} {E : Int} {b nT : Nat} {t : TreeD} {q m' : Nat} {w w3 w5 wF : World} {e : Ending} (h : GoodT (RdAt L E b) b nT t q m' w3 e w5) (hA : Aside (fun q => q = b ∨ w.heap.size <= q) w w3) (hF : Aside (fun q => q = w.heap.size) w5 wF) (hlt : w.heap.size < w3.heap.size) (hb : b < w.heap.size) : GoodT (RdAt L E b) b nT t q m' w e wF := by
 obtain ⟨cs, h1, h2, h3, h4⟩ := h
 refine ⟨cs, h1, h2.carry (fun x hx => hF.block x hx.2 (by omega)) (fun x hx => ⟨by omega, Nat.lt_of_lt_of_le hx.2 hF.size⟩), h3.past hF (fun q hq => by omega), ?_⟩
 exact Aside.low ((hA.join h4 (fun q hq _ => .inl hq)).join hF (fun q hq _ => .inr (by omega)))
theorem c_val_form (L : List SignD) (E : Int) (b n d p m : Nat) (w : World) (hL : SgOk L) (hpl : p <= L.length) (h : RdAt L E b p m flt0 w) (hk : ¬ (kindAt L p = 1 ∨ kindAt L p = 3 ∨ 7 <= kindAt L p)) :
  Calls Tryz.prog 73 #[.pointer (some ⟨b, 0, none⟩), .int .i64 d] w (ValE (RdAt L E b) b L.length (10 - d) (readJ L E (n + 1) (.value d) p m) w) := by
 have HRd := hid h
 have hlb := h.lt
 have hlen := hL.len
 have hnb : ¬ w.heap.size = b := by omega
 obtain ⟨t, ht⟩ : ∃ t, t = kindAt L p := ⟨_, rfl⟩
 obtain ⟨r, hr⟩ : ∃ r, r = readJ L E (n + 1) (.value d) p m := ⟨_, rfl⟩
 rw [<- hr]
 have HT := hid ht
 have HR := hid hr
 rw [readJ_form hk] at HR
 rw [<- ht] at hk
 have d1 : (t != 1) = true := bne_iff_ne.2 (fun h => hk (.inl h))
 have d1' : (t == 1) = false := beq_eq_false_iff_ne.2 (fun h => hk (.inl h))
 have d2 : (t != 3) = true := bne_iff_ne.2 (fun h => hk (.inr (.inl h)))
 have d2' : (t == 3) = false := beq_eq_false_iff_ne.2 (fun h => hk (.inr (.inl h)))
 have d3 : t < 7 := by have : ¬ 7 <= t := fun h => hk (.inr (.inr h)); omega
 clear hk
 clear ht hr h
 go_enter Tryz.func73, Tryz.ntmps73
 go_wp2_with fail
 refine (c_rd_kind L E b p m flt0 _ (by omega) (HRd.out.below bel)).mono ?_
 rintro e w1 ⟨rfl, hb1⟩
 rw [<- HT.out]
 have HB1 := hid (bel : Below w.heap.size w w1)
 have HT1 := hid ((hb1.block w.heap.size (by simp)).trans (heap_at (w := w) (o := .cells #[.int .i64 0, .bool false, .int .i64 0, .string ⟨#[]⟩, .slice none 0 0, .slice none 0 0] 34) rfl))
 have HR1 := hid (HRd.out.below HB1.out)
 have hl1 := row_lt HT1.out
 obtain ⟨A, c, hbx, -, -⟩ := HR1.out
 unfold rdC at hbx
 obtain ⟨a0, a1, a2, a3, a4, a5, a6, af⟩ := row7r hbx
 have l1 := row_lt hbx
 clear hbx hb1
 go_wp2_with fail
 refine (c_rd_fail_new L E 4 b p m flt0 _ (by omega) HR1.out rfl).mono ?_
 rintro e w2 ⟨rfl, hR2, hA2⟩
 have HR2 := hid hR2
 have HA2 := hid hA2
 have HT2 := hid ((hA2.block _ hl1 hnb).trans HT1.out)
 have hl2 := row_lt HT2.out
 clear a0 a1 a2 a3 a4 a5 a6 af hR2 hA2
 obtain ⟨A2, c2, hbx, -, -⟩ := HR2.out
 unfold rdC at hbx
 obtain ⟨a0, a1, a2, a3, a4, a5, a6, af⟩ := row7r hbx
 obtain ⟨x0, x1, x2, x3, x4, x5, xf⟩ := row6 HT2.out
 have l2 := row_lt hbx
 have hc4 : (badF L E 4 p).code = 4 := rfl
 rw [hc4] at a4
 clear hbx hc4
 go_wp2_with fail
 exact bodyPost_ret (v := .agg #[.int .i64 0, .bool false, .int .i64 0, .string ⟨#[]⟩, .slice none 0 0, .slice none 0 0]) (by simp only [results, Tryz.results73]; go_simp) rfl (ValE.bad HR.out (BadT.close ⟨0, false, 0, ⟨#[]⟩, none, 0, 0, none, 0, 0, p, m, rfl, HR2.out, hpl, HA2.out⟩ (Aside.of_below HB1.out) asd hlb))
theorem c_val_deep (L : List SignD) (E : Int) (b n d p m : Nat) (w : World) (hL : SgOk L) (hpl : p <= L.length) (h : RdAt L E b p m flt0 w) (hk : kindAt L p = 1 ∨ kindAt L p = 3 ∨ 7 <= kindAt L p) (h8 : 8 < d) :
  Calls Tryz.prog 73 #[.pointer (some ⟨b, 0, none⟩), .int .i64 d] w (ValE (RdAt L E b) b L.length (10 - d) (readJ L E (n + 1) (.value d) p m) w) := by
 have HRd := hid h
 have hlb := h.lt
 have hlen := hL.len
 have hnb : ¬ w.heap.size = b := by omega
 obtain ⟨t, ht⟩ : ∃ t, t = kindAt L p := ⟨_, rfl⟩
 obtain ⟨r, hr⟩ : ∃ r, r = readJ L E (n + 1) (.value d) p m := ⟨_, rfl⟩
 rw [<- hr]
 have HT := hid ht
 have HR := hid hr
 rw [readJ_deep hk h8] at HR
 have hcs : t = 1 ∨ (t != 1) = true /\ t = 3 ∨ (t != 1) = true /\ (t != 3) = true /\ decide (t < 7) = false := by
  rw [<- ht] at hk
  by_cases e1 : t = 1
  ·exact .inl e1
  ·by_cases e3 : t = 3
   ·exact .inr (.inl ⟨bne_iff_ne.2 e1, e3⟩)
   ·exact .inr (.inr ⟨bne_iff_ne.2 e1, bne_iff_ne.2 e3, decide_eq_false (by omega)⟩)
 have d8 : (8 : Int) < d := by omega
 clear hk h8
 clear ht hr h
 rcases hcs with rfl | ⟨e1, rfl⟩ | ⟨e1, e3, e7⟩
 all_goals
  go_enter Tryz.func73, Tryz.ntmps73
  go_wp2_with fail
  refine (c_rd_kind L E b p m flt0 _ (by omega) (HRd.out.below bel)).mono ?_
  rintro e w1 ⟨rfl, hb1⟩
  rw [<- HT.out]
  have HB1 := hid (bel : Below w.heap.size w w1)
  have HT1 := hid ((hb1.block w.heap.size (by simp)).trans (heap_at (w := w) (o := .cells #[.int .i64 0, .bool false, .int .i64 0, .string ⟨#[]⟩, .slice none 0 0, .slice none 0 0] 34) rfl))
  have HR1 := hid (HRd.out.below HB1.out)
  have hl1 := row_lt HT1.out
  obtain ⟨A, c, hbx, -, -⟩ := HR1.out
  unfold rdC at hbx
  obtain ⟨a0, a1, a2, a3, a4, a5, a6, af⟩ := row7r hbx
  have l1 := row_lt hbx
  clear hbx hb1
  go_wp2_with fail
  refine (c_rd_fail_new L E 6 b p m flt0 _ (by omega) HR1.out rfl).mono ?_
  rintro e w2 ⟨rfl, hR2, hA2⟩
  have HR2 := hid hR2
  have HA2 := hid hA2
  have HT2 := hid ((hA2.block _ hl1 hnb).trans HT1.out)
  have hl2 := row_lt HT2.out
  clear a0 a1 a2 a3 a4 a5 a6 af hR2 hA2
  obtain ⟨A2, c2, hbx, -, -⟩ := HR2.out
  unfold rdC at hbx
  obtain ⟨a0, a1, a2, a3, a4, a5, a6, af⟩ := row7r hbx
  obtain ⟨x0, x1, x2, x3, x4, x5, xf⟩ := row6 HT2.out
  have l2 := row_lt hbx
  have hc4 : (badF L E 6 p).code = 6 := rfl
  rw [hc4] at a4
  clear hbx hc4
  go_wp2_with fail
  exact bodyPost_ret (v := .agg #[.int .i64 0, .bool false, .int .i64 0, .string ⟨#[]⟩, .slice none 0 0, .slice none 0 0]) (by simp only [results, Tryz.results73]; go_simp) rfl (ValE.bad HR.out (BadT.close ⟨0, false, 0, ⟨#[]⟩, none, 0, 0, none, 0, 0, p, m, rfl, HR2.out, hpl, HA2.out⟩ (Aside.of_below HB1.out) asd hlb))
theorem c_val_many (L : List SignD) (E : Int) (b n d p m : Nat) (w : World) (hL : SgOk L) (hpl : p <= L.length) (h : RdAt L E b p m flt0 w) (hk : kindAt L p = 1 ∨ kindAt L p = 3 ∨ 7 <= kindAt L p) (h8 : ¬ 8 < d) (h3 : 300 <= m) :
  Calls Tryz.prog 73 #[.pointer (some ⟨b, 0, none⟩), .int .i64 d] w (ValE (RdAt L E b) b L.length (10 - d) (readJ L E (n + 1) (.value d) p m) w) := by
 have HRd := hid h
 have hlb := h.lt
 have hlen := hL.len
 have hnb : ¬ w.heap.size = b := by omega
 obtain ⟨t, ht⟩ : ∃ t, t = kindAt L p := ⟨_, rfl⟩
 obtain ⟨r, hr⟩ : ∃ r, r = readJ L E (n + 1) (.value d) p m := ⟨_, rfl⟩
 rw [<- hr]
 have HT := hid ht
 have HR := hid hr
 rw [readJ_many hk h8 h3] at HR
 have hcs : t = 1 ∨ (t != 1) = true /\ t = 3 ∨ (t != 1) = true /\ (t != 3) = true /\ decide (t < 7) = false := by
  rw [<- ht] at hk
  by_cases e1 : t = 1
  ·exact .inl e1
  ·by_cases e3 : t = 3
   ·exact .inr (.inl ⟨bne_iff_ne.2 e1, e3⟩)
   ·exact .inr (.inr ⟨bne_iff_ne.2 e1, bne_iff_ne.2 e3, decide_eq_false (by omega)⟩)
 have d8 : decide ((8 : Int) < d) = false := decide_eq_false (by omega)
 have d300 : decide ((300 : Int) <= m) = true := decide_eq_true (by omega)
 clear hk h8 h3
 clear ht hr h
 rcases hcs with rfl | ⟨e1, rfl⟩ | ⟨e1, e3, e7⟩
 all_goals
  go_enter Tryz.func73, Tryz.ntmps73
  go_wp2_with fail
  refine (c_rd_kind L E b p m flt0 _ (by omega) (HRd.out.below bel)).mono ?_
  rintro e w1 ⟨rfl, hb1⟩
  rw [<- HT.out]
  have HB1 := hid (bel : Below w.heap.size w w1)
  have HT1 := hid ((hb1.block w.heap.size (by simp)).trans (heap_at (w := w) (o := .cells #[.int .i64 0, .bool false, .int .i64 0, .string ⟨#[]⟩, .slice none 0 0, .slice none 0 0] 34) rfl))
  have HR1 := hid (HRd.out.below HB1.out)
  have hl1 := row_lt HT1.out
  obtain ⟨A, c, hbx, -, -⟩ := HR1.out
  unfold rdC at hbx
  obtain ⟨a0, a1, a2, a3, a4, a5, a6, af⟩ := row7r hbx
  have l1 := row_lt hbx
  clear hbx hb1
  go_wp2_with fail
  refine (c_rd_fail_new L E 7 b p m flt0 _ (by omega) HR1.out rfl).mono ?_
  rintro e w2 ⟨rfl, hR2, hA2⟩
  have HR2 := hid hR2
  have HA2 := hid hA2
  have HT2 := hid ((hA2.block _ hl1 hnb).trans HT1.out)
  have hl2 := row_lt HT2.out
  clear a0 a1 a2 a3 a4 a5 a6 af hR2 hA2
  obtain ⟨A2, c2, hbx, -, -⟩ := HR2.out
  unfold rdC at hbx
  obtain ⟨a0, a1, a2, a3, a4, a5, a6, af⟩ := row7r hbx
  obtain ⟨x0, x1, x2, x3, x4, x5, xf⟩ := row6 HT2.out
  have l2 := row_lt hbx
  have hc4 : (badF L E 7 p).code = 7 := rfl
  rw [hc4] at a4
  clear hbx hc4
  go_wp2_with fail
  exact bodyPost_ret (v := .agg #[.int .i64 0, .bool false, .int .i64 0, .string ⟨#[]⟩, .slice none 0 0, .slice none 0 0]) (by simp only [results, Tryz.results73]; go_simp) rfl (ValE.bad HR.out (BadT.close ⟨0, false, 0, ⟨#[]⟩, none, 0, 0, none, 0, 0, p, m, rfl, HR2.out, hpl, HA2.out⟩ (Aside.of_below HB1.out) asd hlb))
theorem c_val_text (L : List SignD) (E : Int) (b n d p m : Nat) (x : SignD) (w : World) (hL : SgOk L) (hx : L[p]? = some x) (hk : x.kind = 7) (hd8 : ¬ 8 < d) (hm3 : ¬ 300 <= m) (h : RdAt L E b p m flt0 w) (hsz : ¬ 400 < x.text.size) :
  Calls Tryz.prog 73 #[.pointer (some ⟨b, 0, none⟩), .int .i64 d] w (ValE (RdAt L E b) b L.length (10 - d) (readJ L E (n + 1) (.value d) p m) w) := by
 have HRd := hid h
 have hlb := h.lt
 have hlen := hL.len
 have hpl : p < L.length := (List.getElem?_eq_some_iff.1 hx).1
 have hz0 : (0 : Int) <= p := by omega
 have hz1 : (p : Int) < L.length := by omega
 have hnb : ¬ w.heap.size = b := by omega
 obtain ⟨r, hr⟩ : ∃ r, r = readJ L E (n + 1) (.value d) p m := ⟨_, rfl⟩
 obtain ⟨nd, hnd⟩ : ∃ k, 10 - d = k + 1 := ⟨9 - d, by omega⟩
 rw [<- hr, hnd]
 have hkk : kindAt L p = 7 := (kindAt_some hx).trans hk
 rw [readJ_go hx (by rw [hkk]; decide) hd8 hm3] at hr
 have HK := hid hkk
 have HX := hid hx
 have HN := hid hnd
 have htx := hL.text p x hx
 have hnx := hL.num p x hx
 unfold I64 at hnx
 obtain ⟨hnx1, hnx2⟩ := hnx
 have d8 : decide ((8 : Int) < d) = false := decide_eq_false (by omega)
 have d300 : decide ((300 : Int) <= m) = false := decide_eq_false (by omega)
 have hm9 : (m : Int) <= 300 := by omega
 rw [if_pos hk, if_neg hsz] at hr
 have HR := hid hr
 have dsz : decide ((400 : Int) < x.text.size) = false := decide_eq_false (by omega)
 clear hr h hx hkk hk hnd hd8 hm3
 go_enter Tryz.func73, Tryz.ntmps73
 go_wp2_with fail
 refine (c_rd_kind L E b p m flt0 _ (by omega) (HRd.out.below bel)).mono ?_
 rintro e w1 ⟨rfl, hb1⟩
 rw [HK.out]
 have HB1 := hid (bel : Below w.heap.size w w1)
 have HT1 := hid ((hb1.block w.heap.size (by simp)).trans (heap_at (w := w) (o := .cells #[.int .i64 0, .bool false, .int .i64 0, .string ⟨#[]⟩, .slice none 0 0, .slice none 0 0] 34) rfl))
 have HR1 := hid (HRd.out.below HB1.out)
 have hl1 := row_lt HT1.out
 obtain ⟨A, c, hbx, -, -⟩ := HR1.out
 unfold rdC at hbx
 obtain ⟨a0, a1, a2, a3, a4, a5, a6, af⟩ := row7r hbx
 have l1 := row_lt hbx
 have a4' : w1.cell? ⟨b, 4, none⟩ = some (.int .i64 0) := a4
 clear hbx hb1 a4
 go_upto_region 11 with fail
 obtain ⟨w2, hw2⟩ : ∃ W, W = w1.setCell ⟨b, 3, none⟩ (.int .i64 ((m : Int) + 1)) := ⟨_, rfl⟩
 have hA2 : Aside (fun q => q = b) w1 w2 := by rw [hw2]; exact aside_set rfl (Aside.refl _ _)
 have hR2 : RdAt L E b p (m + 1) flt0 w2 := RdAt.poke HR1.out hA2 (fun A c h => by rw [hw2]; unfold rdC at h ⊢; exact set7_3 h)
 rw [<- hw2]
 have HR2 := hid hR2
 have HA2 := hid hA2
 have HT2 := hid ((hA2.block _ hl1 hnb).trans HT1.out)
 have hl2 := row_lt HT2.out
 clear a0 a1 a2 a3 a4' a5 a6 af hR2 hA2 hw2
 obtain ⟨A2, c2, hbx, hrow, -⟩ := HR2.out
 unfold rdC at hbx
 obtain ⟨a0, a1, a2, a3, a4, a5, a6, af⟩ := row7r hbx
 have l2 := row_lt hbx
 obtain ⟨g, y, rfl, hy, hlc, lg, s0, s1, s2, s3⟩ := sign_row (p := p) hrow hpl
 obtain rfl : y = x := Option.some.inj (hy.symm.trans HX.out)
 clear hbx hrow hy
 go_cut [6] from 49 to 58 (fun s6 wx => s6 = .pointer (some ⟨w2.heap.size, 0, none⟩) /\ wx.heap[w2.heap.size]? = some (.cells #[.int .i64 y.kind, .string y.text, .int .i64 y.num, .int .i64 y.at'] 92 (0, 0)) /\ Below w2.heap.size w2 wx)
 case first =>
  go_region_law (fail)
  all_goals
   go_wp2_with fail
   go_meet
   exact ⟨rfl, heap_at (by simp), bel⟩
 case rest =>
  obtain ⟨rfl, hXr, hBc⟩ := hcut
  have HXr := hid hXr
  have HBc := hid hBc
  have HRc := hid (HR2.out.below hBc)
  have HTc := hid ((hBc.block _ hl2).trans HT2.out)
  have hl3 := row_lt HTc.out
  have hl3x := row_lt hXr
  have hnx3 : ¬ w2.heap.size = b := by omega
  have hnxt : ¬ w2.heap.size = w.heap.size := by omega
  clear a0 a1 a2 a3 a4 a5 a6 af s0 s1 s2 s3 hXr hBc
  obtain ⟨A3, c3, hbx, -, -⟩ := HRc.out
  unfold rdC at hbx
  obtain ⟨a0, a1, a2, a3, a4, a5, a6, af⟩ := row7r hbx
  have l3 := row_lt hbx
  obtain ⟨y0, y1, y2, y3, yf⟩ := row4 HXr.out
  clear hbx
  go_upto_region 15 with fail
  obtain ⟨w3, hw3⟩ : ∃ W, W = wc.setCell ⟨b, 1, none⟩ (.int .i64 ((p : Int) + 1)) := ⟨_, rfl⟩
  have hA3 : Aside (fun q => q = b) wc w3 := by rw [hw3]; exact aside_set rfl (Aside.refl _ _)
  have hR3 : RdAt L E b (p + 1) (m + 1) flt0 w3 := RdAt.poke HRc.out hA3 (fun A c h => by rw [hw3]; unfold rdC at h ⊢; exact set7_1 h)
  rw [<- hw3]
  have HR3 := hid hR3
  have HT3 := hid ((hA3.block _ (row_lt HTc.out) hnb).trans HTc.out)
  have HX3 := hid ((hA3.block _ (row_lt HXr.out) hnx3).trans HXr.out)
  have HAw := hid (show Aside (fun q => q = b ∨ w.heap.size <= q) w w3 from (Aside.of_below HB1.out).trans ((HA2.out.mono (fun q h => .inl h)).trans ((Aside.of_below HBc.out).trans ((Aside.refl _ wc).trans (hA3.mono (fun q h => .inl h))))))
  have hl4 := row_lt HT3.out
  have hl4x := row_lt HX3.out
  have hl4b := hR3.lt
  clear a0 a1 a2 a3 a4 a5 a6 af y0 y1 y2 y3 yf hR3 hA3 hw3
  obtain ⟨z0, z1, z2, z3, zf⟩ := row4 HX3.out
  obtain ⟨x0, x1, x2, x3, x4, x5, xf⟩ := row6 HT3.out
  go_wp2_with fail
  refine (c_rd_TextTree y.text _).mono ?_
  rintro e w9 ⟨rfl, hb9⟩
  have HB9 := hid hb9
  have HT9 := hid ((hb9.block _ hl4).trans HT3.out)
  have hl9 := row_lt HT9.out
  clear x0 x1 x2 x3 x4 x5 xf z0 z1 z2 z3 zf hb9
  obtain ⟨x0, x1, x2, x3, x4, x5, xf⟩ := row6 HT9.out
  go_wp2_with fail
  exact bodyPost_ret (v := .agg #[.int .i64 4, .bool false, .int .i64 0, .string y.text, .slice none 0 0, .slice none 0 0]) (by simp only [results, Tryz.results73]; go_simp) rfl (ValE.good HR.out (GoodT.close (w3 := w3) ⟨[.int .i64 4, .bool false, .int .i64 0, .string y.text, .slice none 0 0, .slice none 0 0], rfl, own_leaf (by unfold I64; decide) (by unfold I64; decide) (by omega), HR3.out.below HB9.out, Aside.of_below HB9.out⟩ HAw.out asd (by omega) hlb))
theorem c_val_num (L : List SignD) (E : Int) (b n d p m : Nat) (x : SignD) (w : World) (hL : SgOk L) (hx : L[p]? = some x) (hk : x.kind = 8) (hd8 : ¬ 8 < d) (hm3 : ¬ 300 <= m) (h : RdAt L E b p m flt0 w) :
  Calls Tryz.prog 73 #[.pointer (some ⟨b, 0, none⟩), .int .i64 d] w (ValE (RdAt L E b) b L.length (10 - d) (readJ L E (n + 1) (.value d) p m) w) := by
 have HRd := hid h
 have hlb := h.lt
 have hlen := hL.len
 have hpl : p < L.length := (List.getElem?_eq_some_iff.1 hx).1
 have hz0 : (0 : Int) <= p := by omega
 have hz1 : (p : Int) < L.length := by omega
 have hnb : ¬ w.heap.size = b := by omega
 obtain ⟨r, hr⟩ : ∃ r, r = readJ L E (n + 1) (.value d) p m := ⟨_, rfl⟩
 obtain ⟨nd, hnd⟩ : ∃ k, 10 - d = k + 1 := ⟨9 - d, by omega⟩
 rw [<- hr, hnd]
 have hkk : kindAt L p = 8 := (kindAt_some hx).trans hk
 rw [readJ_go hx (by rw [hkk]; decide) hd8 hm3] at hr
 have HK := hid hkk
 have HX := hid hx
 have HN := hid hnd
 have htx := hL.text p x hx
 have hnx := hL.num p x hx
 unfold I64 at hnx
 obtain ⟨hnx1, hnx2⟩ := hnx
 have d8 : decide ((8 : Int) < d) = false := decide_eq_false (by omega)
 have d300 : decide ((300 : Int) <= m) = false := decide_eq_false (by omega)
 have hm9 : (m : Int) <= 300 := by omega
 rw [if_neg (by rw [hk]; decide), if_pos hk] at hr
 have HR := hid hr
 clear hr h hx hkk hk hnd hd8 hm3
 go_enter Tryz.func73, Tryz.ntmps73
 go_wp2_with fail
 refine (c_rd_kind L E b p m flt0 _ (by omega) (HRd.out.below bel)).mono ?_
 rintro e w1 ⟨rfl, hb1⟩
 rw [HK.out]
 have HB1 := hid (bel : Below w.heap.size w w1)
 have HT1 := hid ((hb1.block w.heap.size (by simp)).trans (heap_at (w := w) (o := .cells #[.int .i64 0, .bool false, .int .i64 0, .string ⟨#[]⟩, .slice none 0 0, .slice none 0 0] 34) rfl))
 have HR1 := hid (HRd.out.below HB1.out)
 have hl1 := row_lt HT1.out
 obtain ⟨A, c, hbx, -, -⟩ := HR1.out
 unfold rdC at hbx
 obtain ⟨a0, a1, a2, a3, a4, a5, a6, af⟩ := row7r hbx
 have l1 := row_lt hbx
 have a4' : w1.cell? ⟨b, 4, none⟩ = some (.int .i64 0) := a4
 clear hbx hb1 a4
 go_upto_region 11 with fail
 obtain ⟨w2, hw2⟩ : ∃ W, W = w1.setCell ⟨b, 3, none⟩ (.int .i64 ((m : Int) + 1)) := ⟨_, rfl⟩
 have hA2 : Aside (fun q => q = b) w1 w2 := by rw [hw2]; exact aside_set rfl (Aside.refl _ _)
 have hR2 : RdAt L E b p (m + 1) flt0 w2 := RdAt.poke HR1.out hA2 (fun A c h => by rw [hw2]; unfold rdC at h ⊢; exact set7_3 h)
 rw [<- hw2]
 have HR2 := hid hR2
 have HA2 := hid hA2
 have HT2 := hid ((hA2.block _ hl1 hnb).trans HT1.out)
 have hl2 := row_lt HT2.out
 clear a0 a1 a2 a3 a4' a5 a6 af hR2 hA2 hw2
 obtain ⟨A2, c2, hbx, hrow, -⟩ := HR2.out
 unfold rdC at hbx
 obtain ⟨a0, a1, a2, a3, a4, a5, a6, af⟩ := row7r hbx
 have l2 := row_lt hbx
 obtain ⟨g, y, rfl, hy, hlc, lg, s0, s1, s2, s3⟩ := sign_row (p := p) hrow hpl
 obtain rfl : y = x := Option.some.inj (hy.symm.trans HX.out)
 clear hbx hrow hy
 go_cut [6] from 49 to 58 (fun s6 wx => s6 = .pointer (some ⟨w2.heap.size, 0, none⟩) /\ wx.heap[w2.heap.size]? = some (.cells #[.int .i64 y.kind, .string y.text, .int .i64 y.num, .int .i64 y.at'] 92 (0, 0)) /\ Below w2.heap.size w2 wx)
 case first =>
  go_region_law (fail)
  all_goals
   go_wp2_with fail
   go_meet
   exact ⟨rfl, heap_at (by simp), bel⟩
 case rest =>
  obtain ⟨rfl, hXr, hBc⟩ := hcut
  have HXr := hid hXr
  have HBc := hid hBc
  have HRc := hid (HR2.out.below hBc)
  have HTc := hid ((hBc.block _ hl2).trans HT2.out)
  have hl3 := row_lt HTc.out
  have hl3x := row_lt hXr
  have hnx3 : ¬ w2.heap.size = b := by omega
  have hnxt : ¬ w2.heap.size = w.heap.size := by omega
  clear a0 a1 a2 a3 a4 a5 a6 af s0 s1 s2 s3 hXr hBc
  obtain ⟨A3, c3, hbx, -, -⟩ := HRc.out
  unfold rdC at hbx
  obtain ⟨a0, a1, a2, a3, a4, a5, a6, af⟩ := row7r hbx
  have l3 := row_lt hbx
  obtain ⟨y0, y1, y2, y3, yf⟩ := row4 HXr.out
  clear hbx
  go_upto_region 15 with fail
  obtain ⟨w3, hw3⟩ : ∃ W, W = wc.setCell ⟨b, 1, none⟩ (.int .i64 ((p : Int) + 1)) := ⟨_, rfl⟩
  have hA3 : Aside (fun q => q = b) wc w3 := by rw [hw3]; exact aside_set rfl (Aside.refl _ _)
  have hR3 : RdAt L E b (p + 1) (m + 1) flt0 w3 := RdAt.poke HRc.out hA3 (fun A c h => by rw [hw3]; unfold rdC at h ⊢; exact set7_1 h)
  rw [<- hw3]
  have HR3 := hid hR3
  have HT3 := hid ((hA3.block _ (row_lt HTc.out) hnb).trans HTc.out)
  have HX3 := hid ((hA3.block _ (row_lt HXr.out) hnx3).trans HXr.out)
  have HAw := hid (show Aside (fun q => q = b ∨ w.heap.size <= q) w w3 from (Aside.of_below HB1.out).trans ((HA2.out.mono (fun q h => .inl h)).trans ((Aside.of_below HBc.out).trans ((Aside.refl _ wc).trans (hA3.mono (fun q h => .inl h))))))
  have hl4 := row_lt HT3.out
  have hl4x := row_lt HX3.out
  have hl4b := hR3.lt
  clear a0 a1 a2 a3 a4 a5 a6 af y0 y1 y2 y3 yf hR3 hA3 hw3
  obtain ⟨z0, z1, z2, z3, zf⟩ := row4 HX3.out
  obtain ⟨x0, x1, x2, x3, x4, x5, xf⟩ := row6 HT3.out
  go_wp2_with fail
  refine (c_rd_IntTree y.num _).mono ?_
  rintro e w9 ⟨rfl, hb9⟩
  have HB9 := hid hb9
  have HT9 := hid ((hb9.block _ hl4).trans HT3.out)
  have hl9 := row_lt HT9.out
  clear x0 x1 x2 x3 x4 x5 xf z0 z1 z2 z3 zf hb9
  obtain ⟨x0, x1, x2, x3, x4, x5, xf⟩ := row6 HT9.out
  go_wp2_with fail
  exact bodyPost_ret (v := .agg #[.int .i64 3, .bool false, .int .i64 y.num, .string ⟨#[]⟩, .slice none 0 0, .slice none 0 0]) (by simp only [results, Tryz.results73]; go_simp) rfl (ValE.good HR.out (GoodT.close (w3 := w3) ⟨[.int .i64 3, .bool false, .int .i64 y.num, .string ⟨#[]⟩, .slice none 0 0, .slice none 0 0], rfl, own_leaf (by unfold I64; decide) (by unfold I64; omega) (by decide), HR3.out.below HB9.out, Aside.of_below HB9.out⟩ HAw.out asd (by omega) hlb))
theorem c_val_null (L : List SignD) (E : Int) (b n d p m : Nat) (x : SignD) (w : World) (hL : SgOk L) (hx : L[p]? = some x) (hk : x.kind = 11) (hd8 : ¬ 8 < d) (hm3 : ¬ 300 <= m) (h : RdAt L E b p m flt0 w) :
  Calls Tryz.prog 73 #[.pointer (some ⟨b, 0, none⟩), .int .i64 d] w (ValE (RdAt L E b) b L.length (10 - d) (readJ L E (n + 1) (.value d) p m) w) := by
 have HRd := hid h
 have hlb := h.lt
 have hlen := hL.len
 have hpl : p < L.length := (List.getElem?_eq_some_iff.1 hx).1
 have hz0 : (0 : Int) <= p := by omega
 have hz1 : (p : Int) < L.length := by omega
 have hnb : ¬ w.heap.size = b := by omega
 obtain ⟨r, hr⟩ : ∃ r, r = readJ L E (n + 1) (.value d) p m := ⟨_, rfl⟩
 obtain ⟨nd, hnd⟩ : ∃ k, 10 - d = k + 1 := ⟨9 - d, by omega⟩
 rw [<- hr, hnd]
 have hkk : kindAt L p = 11 := (kindAt_some hx).trans hk
 rw [readJ_go hx (by rw [hkk]; decide) hd8 hm3] at hr
 have HK := hid hkk
 have HX := hid hx
 have HN := hid hnd
 have htx := hL.text p x hx
 have hnx := hL.num p x hx
 unfold I64 at hnx
 obtain ⟨hnx1, hnx2⟩ := hnx
 have d8 : decide ((8 : Int) < d) = false := decide_eq_false (by omega)
 have d300 : decide ((300 : Int) <= m) = false := decide_eq_false (by omega)
 have hm9 : (m : Int) <= 300 := by omega
 rw [if_neg (by rw [hk]; decide), if_neg (by rw [hk]; decide), if_pos hk] at hr
 have HR := hid hr
 clear hr h hx hkk hk hnd hd8 hm3
 go_enter Tryz.func73, Tryz.ntmps73
 go_wp2_with fail
 refine (c_rd_kind L E b p m flt0 _ (by omega) (HRd.out.below bel)).mono ?_
 rintro e w1 ⟨rfl, hb1⟩
 rw [HK.out]
 have HB1 := hid (bel : Below w.heap.size w w1)
 have HT1 := hid ((hb1.block w.heap.size (by simp)).trans (heap_at (w := w) (o := .cells #[.int .i64 0, .bool false, .int .i64 0, .string ⟨#[]⟩, .slice none 0 0, .slice none 0 0] 34) rfl))
 have HR1 := hid (HRd.out.below HB1.out)
 have hl1 := row_lt HT1.out
 obtain ⟨A, c, hbx, -, -⟩ := HR1.out
 unfold rdC at hbx
 obtain ⟨a0, a1, a2, a3, a4, a5, a6, af⟩ := row7r hbx
 have l1 := row_lt hbx
 have a4' : w1.cell? ⟨b, 4, none⟩ = some (.int .i64 0) := a4
 clear hbx hb1 a4
 go_upto_region 11 with fail
 obtain ⟨w2, hw2⟩ : ∃ W, W = w1.setCell ⟨b, 3, none⟩ (.int .i64 ((m : Int) + 1)) := ⟨_, rfl⟩
 have hA2 : Aside (fun q => q = b) w1 w2 := by rw [hw2]; exact aside_set rfl (Aside.refl _ _)
 have hR2 : RdAt L E b p (m + 1) flt0 w2 := RdAt.poke HR1.out hA2 (fun A c h => by rw [hw2]; unfold rdC at h ⊢; exact set7_3 h)
 rw [<- hw2]
 have HR2 := hid hR2
 have HA2 := hid hA2
 have HT2 := hid ((hA2.block _ hl1 hnb).trans HT1.out)
 have hl2 := row_lt HT2.out
 clear a0 a1 a2 a3 a4' a5 a6 af hR2 hA2 hw2
 obtain ⟨A2, c2, hbx, hrow, -⟩ := HR2.out
 unfold rdC at hbx
 obtain ⟨a0, a1, a2, a3, a4, a5, a6, af⟩ := row7r hbx
 have l2 := row_lt hbx
 obtain ⟨g, y, rfl, hy, hlc, lg, s0, s1, s2, s3⟩ := sign_row (p := p) hrow hpl
 obtain rfl : y = x := Option.some.inj (hy.symm.trans HX.out)
 clear hbx hrow hy
 go_cut [6] from 49 to 58 (fun s6 wx => s6 = .pointer (some ⟨w2.heap.size, 0, none⟩) /\ wx.heap[w2.heap.size]? = some (.cells #[.int .i64 y.kind, .string y.text, .int .i64 y.num, .int .i64 y.at'] 92 (0, 0)) /\ Below w2.heap.size w2 wx)
 case first =>
  go_region_law (fail)
  all_goals
   go_wp2_with fail
   go_meet
   exact ⟨rfl, heap_at (by simp), bel⟩
 case rest =>
  obtain ⟨rfl, hXr, hBc⟩ := hcut
  have HXr := hid hXr
  have HBc := hid hBc
  have HRc := hid (HR2.out.below hBc)
  have HTc := hid ((hBc.block _ hl2).trans HT2.out)
  have hl3 := row_lt HTc.out
  have hl3x := row_lt hXr
  have hnx3 : ¬ w2.heap.size = b := by omega
  have hnxt : ¬ w2.heap.size = w.heap.size := by omega
  clear a0 a1 a2 a3 a4 a5 a6 af s0 s1 s2 s3 hXr hBc
  obtain ⟨A3, c3, hbx, -, -⟩ := HRc.out
  unfold rdC at hbx
  obtain ⟨a0, a1, a2, a3, a4, a5, a6, af⟩ := row7r hbx
  have l3 := row_lt hbx
  obtain ⟨y0, y1, y2, y3, yf⟩ := row4 HXr.out
  clear hbx
  go_upto_region 15 with fail
  obtain ⟨w3, hw3⟩ : ∃ W, W = wc.setCell ⟨b, 1, none⟩ (.int .i64 ((p : Int) + 1)) := ⟨_, rfl⟩
  have hA3 : Aside (fun q => q = b) wc w3 := by rw [hw3]; exact aside_set rfl (Aside.refl _ _)
  have hR3 : RdAt L E b (p + 1) (m + 1) flt0 w3 := RdAt.poke HRc.out hA3 (fun A c h => by rw [hw3]; unfold rdC at h ⊢; exact set7_1 h)
  rw [<- hw3]
  have HR3 := hid hR3
  have HT3 := hid ((hA3.block _ (row_lt HTc.out) hnb).trans HTc.out)
  have HX3 := hid ((hA3.block _ (row_lt HXr.out) hnx3).trans HXr.out)
  have HAw := hid (show Aside (fun q => q = b ∨ w.heap.size <= q) w w3 from (Aside.of_below HB1.out).trans ((HA2.out.mono (fun q h => .inl h)).trans ((Aside.of_below HBc.out).trans ((Aside.refl _ wc).trans (hA3.mono (fun q h => .inl h))))))
  have hl4 := row_lt HT3.out
  have hl4x := row_lt HX3.out
  have hl4b := hR3.lt
  clear a0 a1 a2 a3 a4 a5 a6 af y0 y1 y2 y3 yf hR3 hA3 hw3
  obtain ⟨z0, z1, z2, z3, zf⟩ := row4 HX3.out
  obtain ⟨x0, x1, x2, x3, x4, x5, xf⟩ := row6 HT3.out
  go_wp2_with fail
  exact bodyPost_ret (v := .agg #[.int .i64 1, .bool false, .int .i64 0, .string ⟨#[]⟩, .slice none 0 0, .slice none 0 0]) (by simp only [results, Tryz.results73]; go_simp) rfl (ValE.good HR.out (GoodT.close (w3 := w3) ⟨[.int .i64 1, .bool false, .int .i64 0, .string ⟨#[]⟩, .slice none 0 0, .slice none 0 0], rfl, own_leaf (by unfold I64; decide) (by unfold I64; decide) (by decide), HR3.out, Aside.refl _ _⟩ HAw.out asd (by omega) hlb))
theorem c_val_true (L : List SignD) (E : Int) (b n d p m : Nat) (x : SignD) (w : World) (hL : SgOk L) (hx : L[p]? = some x) (hk : x.kind = 9) (hd8 : ¬ 8 < d) (hm3 : ¬ 300 <= m) (h : RdAt L E b p m flt0 w) :
  Calls Tryz.prog 73 #[.pointer (some ⟨b, 0, none⟩), .int .i64 d] w (ValE (RdAt L E b) b L.length (10 - d) (readJ L E (n + 1) (.value d) p m) w) := by
 have HRd := hid h
 have hlb := h.lt
 have hlen := hL.len
 have hpl : p < L.length := (List.getElem?_eq_some_iff.1 hx).1
 have hz0 : (0 : Int) <= p := by omega
 have hz1 : (p : Int) < L.length := by omega
 have hnb : ¬ w.heap.size = b := by omega
 obtain ⟨r, hr⟩ : ∃ r, r = readJ L E (n + 1) (.value d) p m := ⟨_, rfl⟩
 obtain ⟨nd, hnd⟩ : ∃ k, 10 - d = k + 1 := ⟨9 - d, by omega⟩
 rw [<- hr, hnd]
 have hkk : kindAt L p = 9 := (kindAt_some hx).trans hk
 rw [readJ_go hx (by rw [hkk]; decide) hd8 hm3] at hr
 have HK := hid hkk
 have HX := hid hx
 have HN := hid hnd
 have htx := hL.text p x hx
 have hnx := hL.num p x hx
 unfold I64 at hnx
 obtain ⟨hnx1, hnx2⟩ := hnx
 have d8 : decide ((8 : Int) < d) = false := decide_eq_false (by omega)
 have d300 : decide ((300 : Int) <= m) = false := decide_eq_false (by omega)
 have hm9 : (m : Int) <= 300 := by omega
 rw [if_neg (by rw [hk]; decide), if_neg (by rw [hk]; decide), if_neg (by rw [hk]; decide), if_neg (by rw [hk]; decide), if_neg (by rw [hk]; decide), show (x.kind == 9) = true by rw [hk]; rfl] at hr
 have HR := hid hr
 clear hr h hx hkk hk hnd hd8 hm3
 go_enter Tryz.func73, Tryz.ntmps73
 go_wp2_with fail
 refine (c_rd_kind L E b p m flt0 _ (by omega) (HRd.out.below bel)).mono ?_
 rintro e w1 ⟨rfl, hb1⟩
 rw [HK.out]
 have HB1 := hid (bel : Below w.heap.size w w1)
 have HT1 := hid ((hb1.block w.heap.size (by simp)).trans (heap_at (w := w) (o := .cells #[.int .i64 0, .bool false, .int .i64 0, .string ⟨#[]⟩, .slice none 0 0, .slice none 0 0] 34) rfl))
 have HR1 := hid (HRd.out.below HB1.out)
 have hl1 := row_lt HT1.out
 obtain ⟨A, c, hbx, -, -⟩ := HR1.out
 unfold rdC at hbx
 obtain ⟨a0, a1, a2, a3, a4, a5, a6, af⟩ := row7r hbx
 have l1 := row_lt hbx
 have a4' : w1.cell? ⟨b, 4, none⟩ = some (.int .i64 0) := a4
 clear hbx hb1 a4
 go_upto_region 11 with fail
 obtain ⟨w2, hw2⟩ : ∃ W, W = w1.setCell ⟨b, 3, none⟩ (.int .i64 ((m : Int) + 1)) := ⟨_, rfl⟩
 have hA2 : Aside (fun q => q = b) w1 w2 := by rw [hw2]; exact aside_set rfl (Aside.refl _ _)
 have hR2 : RdAt L E b p (m + 1) flt0 w2 := RdAt.poke HR1.out hA2 (fun A c h => by rw [hw2]; unfold rdC at h ⊢; exact set7_3 h)
 rw [<- hw2]
 have HR2 := hid hR2
 have HA2 := hid hA2
 have HT2 := hid ((hA2.block _ hl1 hnb).trans HT1.out)
 have hl2 := row_lt HT2.out
 clear a0 a1 a2 a3 a4' a5 a6 af hR2 hA2 hw2
 obtain ⟨A2, c2, hbx, hrow, -⟩ := HR2.out
 unfold rdC at hbx
 obtain ⟨a0, a1, a2, a3, a4, a5, a6, af⟩ := row7r hbx
 have l2 := row_lt hbx
 obtain ⟨g, y, rfl, hy, hlc, lg, s0, s1, s2, s3⟩ := sign_row (p := p) hrow hpl
 obtain rfl : y = x := Option.some.inj (hy.symm.trans HX.out)
 clear hbx hrow hy
 go_cut [6] from 49 to 58 (fun s6 wx => s6 = .pointer (some ⟨w2.heap.size, 0, none⟩) /\ wx.heap[w2.heap.size]? = some (.cells #[.int .i64 y.kind, .string y.text, .int .i64 y.num, .int .i64 y.at'] 92 (0, 0)) /\ Below w2.heap.size w2 wx)
 case first =>
  go_region_law (fail)
  all_goals
   go_wp2_with fail
   go_meet
   exact ⟨rfl, heap_at (by simp), bel⟩
 case rest =>
  obtain ⟨rfl, hXr, hBc⟩ := hcut
  have HXr := hid hXr
  have HBc := hid hBc
  have HRc := hid (HR2.out.below hBc)
  have HTc := hid ((hBc.block _ hl2).trans HT2.out)
  have hl3 := row_lt HTc.out
  have hl3x := row_lt hXr
  have hnx3 : ¬ w2.heap.size = b := by omega
  have hnxt : ¬ w2.heap.size = w.heap.size := by omega
  clear a0 a1 a2 a3 a4 a5 a6 af s0 s1 s2 s3 hXr hBc
  obtain ⟨A3, c3, hbx, -, -⟩ := HRc.out
  unfold rdC at hbx
  obtain ⟨a0, a1, a2, a3, a4, a5, a6, af⟩ := row7r hbx
  have l3 := row_lt hbx
  obtain ⟨y0, y1, y2, y3, yf⟩ := row4 HXr.out
  clear hbx
  go_upto_region 15 with fail
  obtain ⟨w3, hw3⟩ : ∃ W, W = wc.setCell ⟨b, 1, none⟩ (.int .i64 ((p : Int) + 1)) := ⟨_, rfl⟩
  have hA3 : Aside (fun q => q = b) wc w3 := by rw [hw3]; exact aside_set rfl (Aside.refl _ _)
  have hR3 : RdAt L E b (p + 1) (m + 1) flt0 w3 := RdAt.poke HRc.out hA3 (fun A c h => by rw [hw3]; unfold rdC at h ⊢; exact set7_1 h)
  rw [<- hw3]
  have HR3 := hid hR3
  have HT3 := hid ((hA3.block _ (row_lt HTc.out) hnb).trans HTc.out)
  have HX3 := hid ((hA3.block _ (row_lt HXr.out) hnx3).trans HXr.out)
  have HAw := hid (show Aside (fun q => q = b ∨ w.heap.size <= q) w w3 from (Aside.of_below HB1.out).trans ((HA2.out.mono (fun q h => .inl h)).trans ((Aside.of_below HBc.out).trans ((Aside.refl _ wc).trans (hA3.mono (fun q h => .inl h))))))
  have hl4 := row_lt HT3.out
  have hl4x := row_lt HX3.out
  have hl4b := hR3.lt
  clear a0 a1 a2 a3 a4 a5 a6 af y0 y1 y2 y3 yf hR3 hA3 hw3
  obtain ⟨z0, z1, z2, z3, zf⟩ := row4 HX3.out
  obtain ⟨x0, x1, x2, x3, x4, x5, xf⟩ := row6 HT3.out
  go_wp2_with fail
  exact bodyPost_ret (v := .agg #[.int .i64 2, .bool true, .int .i64 0, .string ⟨#[]⟩, .slice none 0 0, .slice none 0 0]) (by simp only [results, Tryz.results73]; go_simp) rfl (ValE.good HR.out (GoodT.close (w3 := w3) ⟨[.int .i64 2, .bool true, .int .i64 0, .string ⟨#[]⟩, .slice none 0 0, .slice none 0 0], rfl, own_leaf (by unfold I64; decide) (by unfold I64; decide) (by decide), HR3.out, Aside.refl _ _⟩ HAw.out asd (by omega) hlb))
theorem c_val_false (L : List SignD) (E : Int) (b n d p m : Nat) (x : SignD) (w : World) (hL : SgOk L) (hx : L[p]? = some x) (hk : x.kind = 10) (hd8 : ¬ 8 < d) (hm3 : ¬ 300 <= m) (h : RdAt L E b p m flt0 w) :
  Calls Tryz.prog 73 #[.pointer (some ⟨b, 0, none⟩), .int .i64 d] w (ValE (RdAt L E b) b L.length (10 - d) (readJ L E (n + 1) (.value d) p m) w) := by
 have HRd := hid h
 have hlb := h.lt
 have hlen := hL.len
 have hpl : p < L.length := (List.getElem?_eq_some_iff.1 hx).1
 have hz0 : (0 : Int) <= p := by omega
 have hz1 : (p : Int) < L.length := by omega
 have hnb : ¬ w.heap.size = b := by omega
 obtain ⟨r, hr⟩ : ∃ r, r = readJ L E (n + 1) (.value d) p m := ⟨_, rfl⟩
 obtain ⟨nd, hnd⟩ : ∃ k, 10 - d = k + 1 := ⟨9 - d, by omega⟩
 rw [<- hr, hnd]
 have hkk : kindAt L p = 10 := (kindAt_some hx).trans hk
 rw [readJ_go hx (by rw [hkk]; decide) hd8 hm3] at hr
 have HK := hid hkk
 have HX := hid hx
 have HN := hid hnd
 have htx := hL.text p x hx
 have hnx := hL.num p x hx
 unfold I64 at hnx
 obtain ⟨hnx1, hnx2⟩ := hnx
 have d8 : decide ((8 : Int) < d) = false := decide_eq_false (by omega)
 have d300 : decide ((300 : Int) <= m) = false := decide_eq_false (by omega)
 have hm9 : (m : Int) <= 300 := by omega
 rw [if_neg (by rw [hk]; decide), if_neg (by rw [hk]; decide), if_neg (by rw [hk]; decide), if_neg (by rw [hk]; decide), if_neg (by rw [hk]; decide), show (x.kind == 9) = false by rw [hk]; rfl] at hr
 have HR := hid hr
 clear hr h hx hkk hk hnd hd8 hm3
 go_enter Tryz.func73, Tryz.ntmps73
 go_wp2_with fail
 refine (c_rd_kind L E b p m flt0 _ (by omega) (HRd.out.below bel)).mono ?_
 rintro e w1 ⟨rfl, hb1⟩
 rw [HK.out]
 have HB1 := hid (bel : Below w.heap.size w w1)
 have HT1 := hid ((hb1.block w.heap.size (by simp)).trans (heap_at (w := w) (o := .cells #[.int .i64 0, .bool false, .int .i64 0, .string ⟨#[]⟩, .slice none 0 0, .slice none 0 0] 34) rfl))
 have HR1 := hid (HRd.out.below HB1.out)
 have hl1 := row_lt HT1.out
 obtain ⟨A, c, hbx, -, -⟩ := HR1.out
 unfold rdC at hbx
 obtain ⟨a0, a1, a2, a3, a4, a5, a6, af⟩ := row7r hbx
 have l1 := row_lt hbx
 have a4' : w1.cell? ⟨b, 4, none⟩ = some (.int .i64 0) := a4
 clear hbx hb1 a4
 go_upto_region 11 with fail
 obtain ⟨w2, hw2⟩ : ∃ W, W = w1.setCell ⟨b, 3, none⟩ (.int .i64 ((m : Int) + 1)) := ⟨_, rfl⟩
 have hA2 : Aside (fun q => q = b) w1 w2 := by rw [hw2]; exact aside_set rfl (Aside.refl _ _)
 have hR2 : RdAt L E b p (m + 1) flt0 w2 := RdAt.poke HR1.out hA2 (fun A c h => by rw [hw2]; unfold rdC at h ⊢; exact set7_3 h)
 rw [<- hw2]
 have HR2 := hid hR2
 have HA2 := hid hA2
 have HT2 := hid ((hA2.block _ hl1 hnb).trans HT1.out)
 have hl2 := row_lt HT2.out
 clear a0 a1 a2 a3 a4' a5 a6 af hR2 hA2 hw2
 obtain ⟨A2, c2, hbx, hrow, -⟩ := HR2.out
 unfold rdC at hbx
 obtain ⟨a0, a1, a2, a3, a4, a5, a6, af⟩ := row7r hbx
 have l2 := row_lt hbx
 obtain ⟨g, y, rfl, hy, hlc, lg, s0, s1, s2, s3⟩ := sign_row (p := p) hrow hpl
 obtain rfl : y = x := Option.some.inj (hy.symm.trans HX.out)
 clear hbx hrow hy
 go_cut [6] from 49 to 58 (fun s6 wx => s6 = .pointer (some ⟨w2.heap.size, 0, none⟩) /\ wx.heap[w2.heap.size]? = some (.cells #[.int .i64 y.kind, .string y.text, .int .i64 y.num, .int .i64 y.at'] 92 (0, 0)) /\ Below w2.heap.size w2 wx)
 case first =>
  go_region_law (fail)
  all_goals
   go_wp2_with fail
   go_meet
   exact ⟨rfl, heap_at (by simp), bel⟩
 case rest =>
  obtain ⟨rfl, hXr, hBc⟩ := hcut
  have HXr := hid hXr
  have HBc := hid hBc
  have HRc := hid (HR2.out.below hBc)
  have HTc := hid ((hBc.block _ hl2).trans HT2.out)
  have hl3 := row_lt HTc.out
  have hl3x := row_lt hXr
  have hnx3 : ¬ w2.heap.size = b := by omega
  have hnxt : ¬ w2.heap.size = w.heap.size := by omega
  clear a0 a1 a2 a3 a4 a5 a6 af s0 s1 s2 s3 hXr hBc
  obtain ⟨A3, c3, hbx, -, -⟩ := HRc.out
  unfold rdC at hbx
  obtain ⟨a0, a1, a2, a3, a4, a5, a6, af⟩ := row7r hbx
  have l3 := row_lt hbx
  obtain ⟨y0, y1, y2, y3, yf⟩ := row4 HXr.out
  clear hbx
  go_upto_region 15 with fail
  obtain ⟨w3, hw3⟩ : ∃ W, W = wc.setCell ⟨b, 1, none⟩ (.int .i64 ((p : Int) + 1)) := ⟨_, rfl⟩
  have hA3 : Aside (fun q => q = b) wc w3 := by rw [hw3]; exact aside_set rfl (Aside.refl _ _)
  have hR3 : RdAt L E b (p + 1) (m + 1) flt0 w3 := RdAt.poke HRc.out hA3 (fun A c h => by rw [hw3]; unfold rdC at h ⊢; exact set7_1 h)
  rw [<- hw3]
  have HR3 := hid hR3
  have HT3 := hid ((hA3.block _ (row_lt HTc.out) hnb).trans HTc.out)
  have HX3 := hid ((hA3.block _ (row_lt HXr.out) hnx3).trans HXr.out)
  have HAw := hid (show Aside (fun q => q = b ∨ w.heap.size <= q) w w3 from (Aside.of_below HB1.out).trans ((HA2.out.mono (fun q h => .inl h)).trans ((Aside.of_below HBc.out).trans ((Aside.refl _ wc).trans (hA3.mono (fun q h => .inl h))))))
  have hl4 := row_lt HT3.out
  have hl4x := row_lt HX3.out
  have hl4b := hR3.lt
  clear a0 a1 a2 a3 a4 a5 a6 af y0 y1 y2 y3 yf hR3 hA3 hw3
  obtain ⟨z0, z1, z2, z3, zf⟩ := row4 HX3.out
  obtain ⟨x0, x1, x2, x3, x4, x5, xf⟩ := row6 HT3.out
  go_wp2_with fail
  exact bodyPost_ret (v := .agg #[.int .i64 2, .bool false, .int .i64 0, .string ⟨#[]⟩, .slice none 0 0, .slice none 0 0]) (by simp only [results, Tryz.results73]; go_simp) rfl (ValE.good HR.out (GoodT.close (w3 := w3) ⟨[.int .i64 2, .bool false, .int .i64 0, .string ⟨#[]⟩, .slice none 0 0, .slice none 0 0], rfl, own_leaf (by unfold I64; decide) (by unfold I64; decide) (by decide), HR3.out, Aside.refl _ _⟩ HAw.out asd (by omega) hlb))
theorem c_val_wide (L : List SignD) (E : Int) (b n d p m : Nat) (x : SignD) (w : World) (hL : SgOk L) (hx : L[p]? = some x) (hk : x.kind = 7) (hd8 : ¬ 8 < d) (hm3 : ¬ 300 <= m) (h : RdAt L E b p m flt0 w) (hsz : 400 < x.text.size) :
  Calls Tryz.prog 73 #[.pointer (some ⟨b, 0, none⟩), .int .i64 d] w (ValE (RdAt L E b) b L.length (10 - d) (readJ L E (n + 1) (.value d) p m) w) := by
 have HRd := hid h
 have hlb := h.lt
 have hlen := hL.len
 have hpl : p < L.length := (List.getElem?_eq_some_iff.1 hx).1
 have hz0 : (0 : Int) <= p := by omega
 have hz1 : (p : Int) < L.length := by omega
 have hnb : ¬ w.heap.size = b := by omega
 obtain ⟨r, hr⟩ : ∃ r, r = readJ L E (n + 1) (.value d) p m := ⟨_, rfl⟩
 obtain ⟨nd, hnd⟩ : ∃ k, 10 - d = k + 1 := ⟨9 - d, by omega⟩
 rw [<- hr, hnd]
 have hkk : kindAt L p = 7 := (kindAt_some hx).trans hk
 rw [readJ_go hx (by rw [hkk]; decide) hd8 hm3] at hr
 have HK := hid hkk
 have HX := hid hx
 have HN := hid hnd
 have htx := hL.text p x hx
 have hnx := hL.num p x hx
 unfold I64 at hnx
 obtain ⟨hnx1, hnx2⟩ := hnx
 have d8 : decide ((8 : Int) < d) = false := decide_eq_false (by omega)
 have d300 : decide ((300 : Int) <= m) = false := decide_eq_false (by omega)
 have hm9 : (m : Int) <= 300 := by omega
 rw [if_pos hk, if_pos hsz] at hr
 have HR := hid hr
 have dsz : decide ((400 : Int) < x.text.size) = true := decide_eq_true (by omega)
 clear hsz
 clear hr h hx hkk hk hnd hd8 hm3
 go_enter Tryz.func73, Tryz.ntmps73
 go_wp2_with fail
 refine (c_rd_kind L E b p m flt0 _ (by omega) (HRd.out.below bel)).mono ?_
 rintro e w1 ⟨rfl, hb1⟩
 rw [HK.out]
 have HB1 := hid (bel : Below w.heap.size w w1)
 have HT1 := hid ((hb1.block w.heap.size (by simp)).trans (heap_at (w := w) (o := .cells #[.int .i64 0, .bool false, .int .i64 0, .string ⟨#[]⟩, .slice none 0 0, .slice none 0 0] 34) rfl))
 have HR1 := hid (HRd.out.below HB1.out)
 have hl1 := row_lt HT1.out
 obtain ⟨A, c, hbx, -, -⟩ := HR1.out
 unfold rdC at hbx
 obtain ⟨a0, a1, a2, a3, a4, a5, a6, af⟩ := row7r hbx
 have l1 := row_lt hbx
 have a4' : w1.cell? ⟨b, 4, none⟩ = some (.int .i64 0) := a4
 clear hbx hb1 a4
 go_upto_region 11 with fail
 obtain ⟨w2, hw2⟩ : ∃ W, W = w1.setCell ⟨b, 3, none⟩ (.int .i64 ((m : Int) + 1)) := ⟨_, rfl⟩
 have hA2 : Aside (fun q => q = b) w1 w2 := by rw [hw2]; exact aside_set rfl (Aside.refl _ _)
 have hR2 : RdAt L E b p (m + 1) flt0 w2 := RdAt.poke HR1.out hA2 (fun A c h => by rw [hw2]; unfold rdC at h ⊢; exact set7_3 h)
 rw [<- hw2]
 have HR2 := hid hR2
 have HA2 := hid hA2
 have HT2 := hid ((hA2.block _ hl1 hnb).trans HT1.out)
 have hl2 := row_lt HT2.out
 clear a0 a1 a2 a3 a4' a5 a6 af hR2 hA2 hw2
 obtain ⟨A2, c2, hbx, hrow, -⟩ := HR2.out
 unfold rdC at hbx
 obtain ⟨a0, a1, a2, a3, a4, a5, a6, af⟩ := row7r hbx
 have l2 := row_lt hbx
 obtain ⟨g, y, rfl, hy, hlc, lg, s0, s1, s2, s3⟩ := sign_row (p := p) hrow hpl
 obtain rfl : y = x := Option.some.inj (hy.symm.trans HX.out)
 clear hbx hrow hy
 go_cut [6] from 49 to 58 (fun s6 wx => s6 = .pointer (some ⟨w2.heap.size, 0, none⟩) /\ wx.heap[w2.heap.size]? = some (.cells #[.int .i64 y.kind, .string y.text, .int .i64 y.num, .int .i64 y.at'] 92 (0, 0)) /\ Below w2.heap.size w2 wx)
 case first =>
  go_region_law (fail)
  all_goals
   go_wp2_with fail
   go_meet
   exact ⟨rfl, heap_at (by simp), bel⟩
 case rest =>
  obtain ⟨rfl, hXr, hBc⟩ := hcut
  have HXr := hid hXr
  have HBc := hid hBc
  have HRc := hid (HR2.out.below hBc)
  have HTc := hid ((hBc.block _ hl2).trans HT2.out)
  have hl3 := row_lt HTc.out
  have hl3x := row_lt hXr
  have hnx3 : ¬ w2.heap.size = b := by omega
  have hnxt : ¬ w2.heap.size = w.heap.size := by omega
  clear a0 a1 a2 a3 a4 a5 a6 af s0 s1 s2 s3 hXr hBc
  obtain ⟨A3, c3, hbx, -, -⟩ := HRc.out
  unfold rdC at hbx
  obtain ⟨a0, a1, a2, a3, a4, a5, a6, af⟩ := row7r hbx
  have l3 := row_lt hbx
  obtain ⟨y0, y1, y2, y3, yf⟩ := row4 HXr.out
  clear hbx
  go_wp2_with fail
  refine (c_rd_fail_new L E 8 b p (m + 1) flt0 _ (by omega) HRc.out rfl).mono ?_
  rintro e w8 ⟨rfl, hR8, hA8⟩
  have HR8 := hid hR8
  have HA8 := hid hA8
  have HT8 := hid ((hA8.block _ hl3 hnb).trans HTc.out)
  have HX8 := hid ((hA8.block _ hl3x hnx3).trans HXr.out)
  clear a0 a1 a2 a3 a4 a5 a6 af y0 y1 y2 y3 yf hR8 hA8
  obtain ⟨A8, c8, hbx, -, -⟩ := HR8.out
  unfold rdC at hbx
  obtain ⟨a0, a1, a2, a3, a4, a5, a6, af⟩ := row7r hbx
  obtain ⟨y0, y1, y2, y3, yf⟩ := row4 HX8.out
  have l8 := row_lt hbx
  have l8x := row_lt HX8.out
  clear hbx
  go_upto_region 15 with fail
  obtain ⟨w3, hw3⟩ : ∃ W, W = w8.setCell ⟨b, 1, none⟩ (.int .i64 ((p : Int) + 1)) := ⟨_, rfl⟩
  have hA3 : Aside (fun q => q = b) w8 w3 := by rw [hw3]; exact aside_set rfl (Aside.refl _ _)
  have hR3 : RdAt L E b (p + 1) (m + 1) (badF L E 8 p) w3 := RdAt.poke HR8.out hA3 (fun A c h => by rw [hw3]; unfold rdC at h ⊢; exact set7_1 h)
  rw [<- hw3]
  have HR3 := hid hR3
  have HT3 := hid ((hA3.block _ (row_lt HT8.out) hnb).trans HT8.out)
  have HX3 := hid ((hA3.block _ (row_lt HX8.out) hnx3).trans HX8.out)
  have HAw := hid (show Aside (fun q => q = b ∨ w.heap.size <= q) w w3 from (Aside.of_below HB1.out).trans ((HA2.out.mono (fun q h => .inl h)).trans ((Aside.of_below HBc.out).trans ((HA8.out.mono (fun q h => .inl h)).trans (hA3.mono (fun q h => .inl h))))))
  have hl4 := row_lt HT3.out
  have hl4x := row_lt HX3.out
  have hl4b := hR3.lt
  clear a0 a1 a2 a3 a4 a5 a6 af y0 y1 y2 y3 yf hR3 hA3 hw3
  obtain ⟨z0, z1, z2, z3, zf⟩ := row4 HX3.out
  obtain ⟨x0, x1, x2, x3, x4, x5, xf⟩ := row6 HT3.out
  go_wp2_with fail
  refine (c_rd_TextTree y.text _).mono ?_
  rintro e w9 ⟨rfl, hb9⟩
  have HB9 := hid hb9
  have HT9 := hid ((hb9.block _ hl4).trans HT3.out)
  have hl9 := row_lt HT9.out
  clear x0 x1 x2 x3 x4 x5 xf z0 z1 z2 z3 zf hb9
  obtain ⟨x0, x1, x2, x3, x4, x5, xf⟩ := row6 HT9.out
  go_wp2_with fail
  exact bodyPost_ret (v := .agg #[.int .i64 4, .bool false, .int .i64 0, .string y.text, .slice none 0 0, .slice none 0 0]) (by simp only [results, Tryz.results73]; go_simp) rfl (ValE.bad HR.out (BadT.close (w3 := w3) ⟨4, false, 0, y.text, none, 0, 0, none, 0, 0, p + 1, m + 1, rfl, HR3.out.below HB9.out, by omega, Aside.of_below HB9.out⟩ HAw.out asd hlb))
theorem c_val_list (L : List SignD) (E : Int) (b n d p m : Nat) (x : SignD) (w : World) (hL : SgOk L) (hx : L[p]? = some x) (hk : x.kind = 3) (hd8 : ¬ 8 < d) (hm3 : ¬ 300 <= m) (h : RdAt L E b p m flt0 w) (hd1 : 1 <= d) (hn : needJ L p (.value d) <= n + 1) (hl : T_listI L E b n) :
  Calls Tryz.prog 73 #[.pointer (some ⟨b, 0, none⟩), .int .i64 d] w (ValE (RdAt L E b) b L.length (10 - d) (readJ L E (n + 1) (.value d) p m) w) := by
 have HRd := hid h
 have hlb := h.lt
 have hlen := hL.len
 have hpl : p < L.length := (List.getElem?_eq_some_iff.1 hx).1
 have hz0 : (0 : Int) <= p := by omega
 have hz1 : (p : Int) < L.length := by omega
 have hnb : ¬ w.heap.size = b := by omega
 obtain ⟨r, hr⟩ : ∃ r, r = readJ L E (n + 1) (.value d) p m := ⟨_, rfl⟩
 obtain ⟨nd, hnd⟩ : ∃ k, 10 - d = k + 1 := ⟨9 - d, by omega⟩
 rw [<- hr, hnd]
 have hkk : kindAt L p = 3 := (kindAt_some hx).trans hk
 rw [readJ_go hx (by rw [hkk]; decide) hd8 hm3] at hr
 have HK := hid hkk
 have HX := hid hx
 have HN := hid hnd
 have htx := hL.text p x hx
 have hnx := hL.num p x hx
 unfold I64 at hnx
 obtain ⟨hnx1, hnx2⟩ := hnx
 have d8 : decide ((8 : Int) < d) = false := decide_eq_false (by omega)
 have d300 : decide ((300 : Int) <= m) = false := decide_eq_false (by omega)
 have hm9 : (m : Int) <= 300 := by omega
 rw [if_neg (by rw [hk]; decide), if_neg (by rw [hk]; decide), if_neg (by rw [hk]; decide), if_pos hk] at hr
 rw [<- hnd]
 have HR := hid hr
 have hdd : d <= 8 := by omega
 have hmm : m + 1 <= 300 := by omega
 have hpp : p + 1 <= L.length := by omega
 have HNe := hid (show needJ L (p + 1) (.list d []) <= n by unfold needJ at hn ⊢; simp only at hn ⊢; omega)
 have HL := hid hl
 clear hl hn
 clear hr h hx hkk hk hnd hd8 hm3
 go_enter Tryz.func73, Tryz.ntmps73
 go_wp2_with fail
 refine (c_rd_kind L E b p m flt0 _ (by omega) (HRd.out.below bel)).mono ?_
 rintro e w1 ⟨rfl, hb1⟩
 rw [HK.out]
 have HB1 := hid (bel : Below w.heap.size w w1)
 have HT1 := hid ((hb1.block w.heap.size (by simp)).trans (heap_at (w := w) (o := .cells #[.int .i64 0, .bool false, .int .i64 0, .string ⟨#[]⟩, .slice none 0 0, .slice none 0 0] 34) rfl))
 have HR1 := hid (HRd.out.below HB1.out)
 have hl1 := row_lt HT1.out
 obtain ⟨A, c, hbx, -, -⟩ := HR1.out
 unfold rdC at hbx
 obtain ⟨a0, a1, a2, a3, a4, a5, a6, af⟩ := row7r hbx
 have l1 := row_lt hbx
 have a4' : w1.cell? ⟨b, 4, none⟩ = some (.int .i64 0) := a4
 clear hbx hb1 a4
 go_upto_region 11 with fail
 obtain ⟨w2, hw2⟩ : ∃ W, W = w1.setCell ⟨b, 3, none⟩ (.int .i64 ((m : Int) + 1)) := ⟨_, rfl⟩
 have hA2 : Aside (fun q => q = b) w1 w2 := by rw [hw2]; exact aside_set rfl (Aside.refl _ _)
 have hR2 : RdAt L E b p (m + 1) flt0 w2 := RdAt.poke HR1.out hA2 (fun A c h => by rw [hw2]; unfold rdC at h ⊢; exact set7_3 h)
 rw [<- hw2]
 have HR2 := hid hR2
 have HA2 := hid hA2
 have HT2 := hid ((hA2.block _ hl1 hnb).trans HT1.out)
 have hl2 := row_lt HT2.out
 clear a0 a1 a2 a3 a4' a5 a6 af hR2 hA2 hw2
 obtain ⟨A2, c2, hbx, hrow, -⟩ := HR2.out
 unfold rdC at hbx
 obtain ⟨a0, a1, a2, a3, a4, a5, a6, af⟩ := row7r hbx
 have l2 := row_lt hbx
 obtain ⟨g, y, rfl, hy, hlc, lg, s0, s1, s2, s3⟩ := sign_row (p := p) hrow hpl
 obtain rfl : y = x := Option.some.inj (hy.symm.trans HX.out)
 clear hbx hrow hy
 go_cut [6] from 49 to 58 (fun s6 wx => s6 = .pointer (some ⟨w2.heap.size, 0, none⟩) /\ wx.heap[w2.heap.size]? = some (.cells #[.int .i64 y.kind, .string y.text, .int .i64 y.num, .int .i64 y.at'] 92 (0, 0)) /\ Below w2.heap.size w2 wx)
 case first =>
  go_region_law (fail)
  all_goals
   go_wp2_with fail
   go_meet
   exact ⟨rfl, heap_at (by simp), bel⟩
 case rest =>
  obtain ⟨rfl, hXr, hBc⟩ := hcut
  have HXr := hid hXr
  have HBc := hid hBc
  have HRc := hid (HR2.out.below hBc)
  have HTc := hid ((hBc.block _ hl2).trans HT2.out)
  have hl3 := row_lt HTc.out
  have hl3x := row_lt hXr
  have hnx3 : ¬ w2.heap.size = b := by omega
  have hnxt : ¬ w2.heap.size = w.heap.size := by omega
  clear a0 a1 a2 a3 a4 a5 a6 af s0 s1 s2 s3 hXr hBc
  obtain ⟨A3, c3, hbx, -, -⟩ := HRc.out
  unfold rdC at hbx
  obtain ⟨a0, a1, a2, a3, a4, a5, a6, af⟩ := row7r hbx
  have l3 := row_lt hbx
  obtain ⟨y0, y1, y2, y3, yf⟩ := row4 HXr.out
  clear hbx
  go_upto_region 15 with fail
  obtain ⟨w3, hw3⟩ : ∃ W, W = wc.setCell ⟨b, 1, none⟩ (.int .i64 ((p : Int) + 1)) := ⟨_, rfl⟩
  have hA3 : Aside (fun q => q = b) wc w3 := by rw [hw3]; exact aside_set rfl (Aside.refl _ _)
  have hR3 : RdAt L E b (p + 1) (m + 1) flt0 w3 := RdAt.poke HRc.out hA3 (fun A c h => by rw [hw3]; unfold rdC at h ⊢; exact set7_1 h)
  rw [<- hw3]
  have HR3 := hid hR3
  have HT3 := hid ((hA3.block _ (row_lt HTc.out) hnb).trans HTc.out)
  have HX3 := hid ((hA3.block _ (row_lt HXr.out) hnx3).trans HXr.out)
  have HAw := hid (show Aside (fun q => q = b ∨ w.heap.size <= q) w w3 from (Aside.of_below HB1.out).trans ((HA2.out.mono (fun q h => .inl h)).trans ((Aside.of_below HBc.out).trans ((Aside.refl _ wc).trans (hA3.mono (fun q h => .inl h))))))
  have hl4 := row_lt HT3.out
  have hl4x := row_lt HX3.out
  have hl4b := hR3.lt
  clear a0 a1 a2 a3 a4 a5 a6 af y0 y1 y2 y3 yf hR3 hA3 hw3
  obtain ⟨z0, z1, z2, z3, zf⟩ := row4 HX3.out
  obtain ⟨x0, x1, x2, x3, x4, x5, xf⟩ := row6 HT3.out
  go_wp2_with fail
  refine (HL.out d (p + 1) (m + 1) _ hd1 hdd hpp hmm HNe.out HR3.out).mono ?_
  intro e w5 hv
  rcases hq : listR L E n d (p + 1) (m + 1) with f | ⟨t', q, m'⟩
  ·have HQ := hid (HR.out.trans hq)
   have hv' := ValE.isBad hq hv
   have HV := hid hv'
   obtain ⟨k5, f5, n5, t5, A45, n45, c45, A55, n55, c55, p5, m5, rfl, hR5, hp5, hA5⟩ := hv'
   have HT5 := hid ((hA5.block _ hl4 hnb).trans HT3.out)
   have hl5 := row_lt HT5.out
   clear x0 x1 x2 x3 x4 x5 xf z0 z1 z2 z3 zf hv hq hR5 hA5
   obtain ⟨x0, x1, x2, x3, x4, x5, xf⟩ := row6 HT5.out
   go_wp2_with fail
   exact bodyPost_ret (v := .agg #[.int .i64 k5, .bool f5, .int .i64 n5, .string t5, .slice A45 n45 c45, .slice A55 n55 c55]) (by simp only [results, Tryz.results73]; go_simp) rfl (ValE.bad HQ.out (BadT.close HV.out HAw.out asd hlb))
  ·have HQ := hid (HR.out.trans hq)
   have hv' := ValE.isGood hq hv
   have HV := hid hv'
   obtain ⟨cs, rfl, hO5, hR5, hA5⟩ := hv'
   obtain ⟨A4, c4, A5, c5, rfl, -⟩ := hO5.flat
   have HT5 := hid ((hA5.block _ hl4 hnb).trans HT3.out)
   have hl5 := row_lt HT5.out
   clear x0 x1 x2 x3 x4 x5 xf z0 z1 z2 z3 zf hv hq hR5 hA5 hO5
   obtain ⟨x0, x1, x2, x3, x4, x5, xf⟩ := row6 HT5.out
   go_wp2_with fail
   exact bodyPost_ret (v := .agg #[.int .i64 t'.kind, .bool t'.flag, .int .i64 t'.num, .string t'.text, .slice A4 t'.keys.length c4, .slice A5 t'.kids.length c5]) (by simp only [results, Tryz.results73]; go_simp) rfl (ValE.good HQ.out (GoodT.close HV.out HAw.out asd (by omega) hlb))
theorem c_val_pairs (L : List SignD) (E : Int) (b n d p m : Nat) (x : SignD) (w : World) (hL : SgOk L) (hx : L[p]? = some x) (hk : x.kind = 1) (hd8 : ¬ 8 < d) (hm3 : ¬ 300 <= m) (h : RdAt L E b p m flt0 w) (hd1 : 1 <= d) (hn : needJ L p (.value d) <= n + 1) (hl : T_pairsI L E b n) :
  Calls Tryz.prog 73 #[.pointer (some ⟨b, 0, none⟩), .int .i64 d] w (ValE (RdAt L E b) b L.length (10 - d) (readJ L E (n + 1) (.value d) p m) w) := by
 have HRd := hid h
 have hlb := h.lt
 have hlen := hL.len
 have hpl : p < L.length := (List.getElem?_eq_some_iff.1 hx).1
 have hz0 : (0 : Int) <= p := by omega
 have hz1 : (p : Int) < L.length := by omega
 have hnb : ¬ w.heap.size = b := by omega
 obtain ⟨r, hr⟩ : ∃ r, r = readJ L E (n + 1) (.value d) p m := ⟨_, rfl⟩
 obtain ⟨nd, hnd⟩ : ∃ k, 10 - d = k + 1 := ⟨9 - d, by omega⟩
 rw [<- hr, hnd]
 have hkk : kindAt L p = 1 := (kindAt_some hx).trans hk
 rw [readJ_go hx (by rw [hkk]; decide) hd8 hm3] at hr
 have HK := hid hkk
 have HX := hid hx
 have HN := hid hnd
 have htx := hL.text p x hx
 have hnx := hL.num p x hx
 unfold I64 at hnx
 obtain ⟨hnx1, hnx2⟩ := hnx
 have d8 : decide ((8 : Int) < d) = false := decide_eq_false (by omega)
 have d300 : decide ((300 : Int) <= m) = false := decide_eq_false (by omega)
 have hm9 : (m : Int) <= 300 := by omega
 rw [if_neg (by rw [hk]; decide), if_neg (by rw [hk]; decide), if_neg (by rw [hk]; decide), if_neg (by rw [hk]; decide), if_pos hk] at hr
 rw [<- hnd]
 have HR := hid hr
 have hdd : d <= 8 := by omega
 have hmm : m + 1 <= 300 := by omega
 have hpp : p + 1 <= L.length := by omega
 have HNe := hid (show needJ L (p + 1) (.pairs d [] []) <= n by unfold needJ at hn ⊢; simp only at hn ⊢; omega)
 have HL := hid hl
 clear hl hn
 clear hr h hx hkk hk hnd hd8 hm3
 go_enter Tryz.func73, Tryz.ntmps73
 go_wp2_with fail
 refine (c_rd_kind L E b p m flt0 _ (by omega) (HRd.out.below bel)).mono ?_
 rintro e w1 ⟨rfl, hb1⟩
 rw [HK.out]
 have HB1 := hid (bel : Below w.heap.size w w1)
 have HT1 := hid ((hb1.block w.heap.size (by simp)).trans (heap_at (w := w) (o := .cells #[.int .i64 0, .bool false, .int .i64 0, .string ⟨#[]⟩, .slice none 0 0, .slice none 0 0] 34) rfl))
 have HR1 := hid (HRd.out.below HB1.out)
 have hl1 := row_lt HT1.out
 obtain ⟨A, c, hbx, -, -⟩ := HR1.out
 unfold rdC at hbx
 obtain ⟨a0, a1, a2, a3, a4, a5, a6, af⟩ := row7r hbx
 have l1 := row_lt hbx
 have a4' : w1.cell? ⟨b, 4, none⟩ = some (.int .i64 0) := a4
 clear hbx hb1 a4
 go_upto_region 11 with fail
 obtain ⟨w2, hw2⟩ : ∃ W, W = w1.setCell ⟨b, 3, none⟩ (.int .i64 ((m : Int) + 1)) := ⟨_, rfl⟩
 have hA2 : Aside (fun q => q = b) w1 w2 := by rw [hw2]; exact aside_set rfl (Aside.refl _ _)
 have hR2 : RdAt L E b p (m + 1) flt0 w2 := RdAt.poke HR1.out hA2 (fun A c h => by rw [hw2]; unfold rdC at h ⊢; exact set7_3 h)
 rw [<- hw2]
 have HR2 := hid hR2
 have HA2 := hid hA2
 have HT2 := hid ((hA2.block _ hl1 hnb).trans HT1.out)
 have hl2 := row_lt HT2.out
 clear a0 a1 a2 a3 a4' a5 a6 af hR2 hA2 hw2
 obtain ⟨A2, c2, hbx, hrow, -⟩ := HR2.out
 unfold rdC at hbx
 obtain ⟨a0, a1, a2, a3, a4, a5, a6, af⟩ := row7r hbx
 have l2 := row_lt hbx
 obtain ⟨g, y, rfl, hy, hlc, lg, s0, s1, s2, s3⟩ := sign_row (p := p) hrow hpl
 obtain rfl : y = x := Option.some.inj (hy.symm.trans HX.out)
 clear hbx hrow hy
 go_cut [6] from 49 to 58 (fun s6 wx => s6 = .pointer (some ⟨w2.heap.size, 0, none⟩) /\ wx.heap[w2.heap.size]? = some (.cells #[.int .i64 y.kind, .string y.text, .int .i64 y.num, .int .i64 y.at'] 92 (0, 0)) /\ Below w2.heap.size w2 wx)
 case first =>
  go_region_law (fail)
  all_goals
   go_wp2_with fail
   go_meet
   exact ⟨rfl, heap_at (by simp), bel⟩
 case rest =>
  obtain ⟨rfl, hXr, hBc⟩ := hcut
  have HXr := hid hXr
  have HBc := hid hBc
  have HRc := hid (HR2.out.below hBc)
  have HTc := hid ((hBc.block _ hl2).trans HT2.out)
  have hl3 := row_lt HTc.out
  have hl3x := row_lt hXr
  have hnx3 : ¬ w2.heap.size = b := by omega
  have hnxt : ¬ w2.heap.size = w.heap.size := by omega
  clear a0 a1 a2 a3 a4 a5 a6 af s0 s1 s2 s3 hXr hBc
  obtain ⟨A3, c3, hbx, -, -⟩ := HRc.out
  unfold rdC at hbx
  obtain ⟨a0, a1, a2, a3, a4, a5, a6, af⟩ := row7r hbx
  have l3 := row_lt hbx
  obtain ⟨y0, y1, y2, y3, yf⟩ := row4 HXr.out
  clear hbx
  go_upto_region 15 with fail
  obtain ⟨w3, hw3⟩ : ∃ W, W = wc.setCell ⟨b, 1, none⟩ (.int .i64 ((p : Int) + 1)) := ⟨_, rfl⟩
  have hA3 : Aside (fun q => q = b) wc w3 := by rw [hw3]; exact aside_set rfl (Aside.refl _ _)
  have hR3 : RdAt L E b (p + 1) (m + 1) flt0 w3 := RdAt.poke HRc.out hA3 (fun A c h => by rw [hw3]; unfold rdC at h ⊢; exact set7_1 h)
  rw [<- hw3]
  have HR3 := hid hR3
  have HT3 := hid ((hA3.block _ (row_lt HTc.out) hnb).trans HTc.out)
  have HX3 := hid ((hA3.block _ (row_lt HXr.out) hnx3).trans HXr.out)
  have HAw := hid (show Aside (fun q => q = b ∨ w.heap.size <= q) w w3 from (Aside.of_below HB1.out).trans ((HA2.out.mono (fun q h => .inl h)).trans ((Aside.of_below HBc.out).trans ((Aside.refl _ wc).trans (hA3.mono (fun q h => .inl h))))))
  have hl4 := row_lt HT3.out
  have hl4x := row_lt HX3.out
  have hl4b := hR3.lt
  clear a0 a1 a2 a3 a4 a5 a6 af y0 y1 y2 y3 yf hR3 hA3 hw3
  obtain ⟨z0, z1, z2, z3, zf⟩ := row4 HX3.out
  obtain ⟨x0, x1, x2, x3, x4, x5, xf⟩ := row6 HT3.out
  go_wp2_with fail
  refine (HL.out d (p + 1) (m + 1) _ hd1 hdd hpp hmm HNe.out HR3.out).mono ?_
  intro e w5 hv
  rcases hq : pairsR L E n d (p + 1) (m + 1) with f | ⟨t', q, m'⟩
  ·have HQ := hid (HR.out.trans hq)
   have hv' := ValE.isBad hq hv
   have HV := hid hv'
   obtain ⟨k5, f5, n5, t5, A45, n45, c45, A55, n55, c55, p5, m5, rfl, hR5, hp5, hA5⟩ := hv'
   have HT5 := hid ((hA5.block _ hl4 hnb).trans HT3.out)
   have hl5 := row_lt HT5.out
   clear x0 x1 x2 x3 x4 x5 xf z0 z1 z2 z3 zf hv hq hR5 hA5
   obtain ⟨x0, x1, x2, x3, x4, x5, xf⟩ := row6 HT5.out
   go_wp2_with fail
   exact bodyPost_ret (v := .agg #[.int .i64 k5, .bool f5, .int .i64 n5, .string t5, .slice A45 n45 c45, .slice A55 n55 c55]) (by simp only [results, Tryz.results73]; go_simp) rfl (ValE.bad HQ.out (BadT.close HV.out HAw.out asd hlb))
  ·have HQ := hid (HR.out.trans hq)
   have hv' := ValE.isGood hq hv
   have HV := hid hv'
   obtain ⟨cs, rfl, hO5, hR5, hA5⟩ := hv'
   obtain ⟨A4, c4, A5, c5, rfl, -⟩ := hO5.flat
   have HT5 := hid ((hA5.block _ hl4 hnb).trans HT3.out)
   have hl5 := row_lt HT5.out
   clear x0 x1 x2 x3 x4 x5 xf z0 z1 z2 z3 zf hv hq hR5 hA5 hO5
   obtain ⟨x0, x1, x2, x3, x4, x5, xf⟩ := row6 HT5.out
   go_wp2_with fail
   exact bodyPost_ret (v := .agg #[.int .i64 t'.kind, .bool t'.flag, .int .i64 t'.num, .string t'.text, .slice A4 t'.keys.length c4, .slice A5 t'.kids.length c5]) (by simp only [results, Tryz.results73]; go_simp) rfl (ValE.good HQ.out (GoodT.close HV.out HAw.out asd (by omega) hlb))
theorem of_valI (L : List SignD) (E : Int) (b n : Nat) (hL : SgOk L) (hl : T_listI L E b n) (hp : T_pairsI L E b n) : T_valI L E b (n + 1) := by
 intro d p m w hd1 hd9 hpl hm hn h
 by_cases hk : kindAt L p = 1 ∨ kindAt L p = 3 ∨ 7 <= kindAt L p
 ·by_cases h8 : 8 < d
  ·exact c_val_deep L E b n d p m w hL hpl h hk h8
  ·by_cases h3 : 300 <= m
   ·exact c_val_many L E b n d p m w hL hpl h hk h8 h3
   ·rcases hx : L[p]? with _ | x
    ·rw [kindAt_none hx] at hk
     omega
    ·have hkx := kindAt_some hx
     have hb := hL.kind p x hx
     rw [hkx] at hk
     rcases (show x.kind = 1 ∨ x.kind = 3 ∨ x.kind = 7 ∨ x.kind = 8 ∨ x.kind = 9 ∨ x.kind = 10 ∨ x.kind = 11 by omega) with e | e | e | e | e | e | e
     ·exact c_val_pairs L E b n d p m x w hL hx e h8 h3 h hd1 hn hp
     ·exact c_val_list L E b n d p m x w hL hx e h8 h3 h hd1 hn hl
     ·by_cases hs : 400 < x.text.size
      ·exact c_val_wide L E b n d p m x w hL hx e h8 h3 h hs
      ·exact c_val_text L E b n d p m x w hL hx e h8 h3 h hs
     ·exact c_val_num L E b n d p m x w hL hx e h8 h3 h
     ·exact c_val_true L E b n d p m x w hL hx e h8 h3 h
     ·exact c_val_false L E b n d p m x w hL hx e h8 h3 h
     ·exact c_val_null L E b n d p m x w hL hx e h8 h3 h
 ·exact c_val_form L E b n d p m w hL hpl h hk
theorem idx_hit {D : Type} (p : D -> Bool) : ∀ (l : List D) (k : Nat) (d : D), l[k]? = some d -> (l.take k).any p = false -> p d = true -> l.findIdx? p = some k
 | [], k, d, h, _, _ => by simp at h
 | x :: l, 0, d, h, _, hp => by simp at h; subst h; simp [List.findIdx?_cons, hp]
 | x :: l, k + 1, d, h, ha, hp => by
  simp only [List.take_succ_cons, List.any_cons, Bool.or_eq_false_iff] at ha
  simp only [List.getElem?_cons_succ] at h
  rw [List.findIdx?_cons, ha.1, idx_hit p l k d h ha.2 hp]
  rfl
theorem idx_end {D : Type} (p : D -> Bool) (l : List D) (ha : (l.take l.length).any p = false) : l.findIdx? p = none := by
 rw [List.take_length] at ha
 rw [List.findIdx?_eq_none_iff]
 intro x hx
 rw [List.any_eq_false] at ha
 simpa using ha x hx
def idxI (l : List ByteArray) (s : ByteArray) : Int := match l.findIdx? (isS s) with | some k => (k : Int) | none => -1
theorem idxI_hit (l : List ByteArray) (s : ByteArray) (k : Nat) (d : ByteArray) (h : l[k]? = some d) (ha : (l.take k).any (isS s) = false) (hp : isS s d = true) : idxI l s = k := by
 unfold idxI; rw [idx_hit _ l k d h ha hp]
theorem idxI_end (l : List ByteArray) (s : ByteArray) (ha : (l.take l.length).any (isS s) = false) : idxI l s = -1 := by
 unfold idxI; rw [idx_end _ l ha]
def keyI (d : TreeD) (key : ByteArray) : Int := if d.kind = 6 then idxI d.keys key else -1
theorem c_spec_KeyAt (n : Nat) (d : TreeD) (cs : List Value) (key : ByteArray) (w : World) (lo : Nat) (h : C_Tree n lo w.heap.size w d cs) :
  Calls Tryz.prog 68 #[.agg cs.toArray, .string key] w fun e w' => e = .returned (.int .i64 (keyI d key)) /\ Below w.heap.size w w' := by
 obtain ⟨m, rfl⟩ := h.any
 obtain ⟨v4, v5, rfl, a0, a2, a3, a4, a5⟩ := h.out
 obtain ⟨A4, c4, rfl, hlc, hcc, hA⟩ := a4
 obtain ⟨A5, c5, rfl⟩ := a5.form
 by_cases hq : d.kind = 6
 ·have Hf := hid (show keyI d key = idxI d.keys key by unfold keyI; rw [if_pos hq])
  have hx : (d.kind == 6) = true := by simp [hq]
  clear hq
  go_enter Tryz.func68, Tryz.ntmps68
  go_wp2_with fail
  go_loopw [5] (fun i wr => ∃ k : Nat, k <= d.keys.length /\ i = .int .i64 k /\ (d.keys.take k).any (isS key) = false /\ ∃ n, wr = (w.alloc (.cells #[.int .i64 d.kind, .bool d.flag, .int .i64 d.num, .string d.text, .slice A4 d.keys.length c4, .slice A5 d.kids.length c5] 34)).drewN n) (fun i _ => d.keys.length - (intOf i).toNat)
  case atStart => exact ⟨0, Nat.zero_le _, rfl, rfl, 0, rfl⟩
  case round =>
   obtain ⟨k, hk, rfl, hall, n, rfl⟩ := hrel
   have Hall := hid hall
   clear hall
   by_cases hlt : k < d.keys.length
   ·obtain ⟨b, o, rfl, -, hb2, hcell⟩ := hA (by omega)
    obtain ⟨s, hd⟩ := exists_at hlt
    obtain ⟨es, -, hcs, hC⟩ := hcell k s hd
    obtain ⟨rfl, ea0⟩ := hC
    have hc0 := hcs 0 (by omega)
    simp at hc0
    have hk0 : (0 : Int) <= k := by omega
    have hk1 : (k : Int) < d.keys.length := by omega
    rcases hq : (s.toList == key.toList) with _ | _
    ·have Hn := hid (takeAny_no (isS key) d.keys k s hd Hall.out hq)
     clear hcs hcell hA hd
     go_wp2_with fail
     go_roundw
     case rel => exact ⟨k + 1, by omega, by go_num, Hn.out, _, rfl⟩
     case measure => simp [intOf]; omega
    ·have Hh := hid (idxI_hit d.keys key k s hd Hall.out hq)
     clear hcs hcell hA hd
     go_wp2_with fail
     go_ret
     exact ⟨ret_int (by rw [Hf.out, Hh.out]), bel⟩
   ·obtain rfl : k = d.keys.length := by omega
    have Hh := hid (idxI_end d.keys key Hall.out)
    clear hA
    go_wp2_with fail
    go_ret
    exact ⟨ret_int (by rw [Hf.out, Hh.out]), bel⟩
 ·have Hf := hid (show keyI d key = -1 by unfold keyI; rw [if_neg hq])
  have hx : (d.kind == 6) = false := by simp [hq]
  clear hA
  go_enter Tryz.func68, Tryz.ntmps68
  go_wp2_with fail
  go_loopw [5] (fun i wr => i = .int .i64 0 /\ wr = w.alloc (.cells #[.int .i64 d.kind, .bool d.flag, .int .i64 d.num, .string d.text, .slice A4 d.keys.length c4, .slice A5 d.kids.length c5] 34)) (fun _ _ => 0)
  case atStart => exact ⟨rfl, rfl⟩
  case round =>
   obtain ⟨rfl, rfl⟩ := hrel
   by_cases hl : (0 : Int) < d.keys.length
   ·go_wp2_with fail
    go_ret
    exact ⟨ret_int Hf.out.symm, bel⟩
   ·go_wp2_with fail
    go_ret
    exact ⟨ret_int Hf.out.symm, bel⟩
open Go.RowKit
theorem GrowK.empty {n base B : Nat} {w : World} (hB : B = w.heap.size) (hb : base <= w.heap.size) : GrowK n base (w.alloc (.cells #[] 34)).heap.size (w.alloc (.cells #[] 34)) [] (.slice (some ⟨B, 0, none⟩) 0 0) :=
 ⟨[], fun _ _ => False, rfl, fun _ h => (by cases h), own_empty hB hb, fun g h => (by simp [Value.ownBlock] at h; simp; omega), fun _ _ h => h.elim, fun _ _ _ h => h.elim, fun i d es h => (by simp at h)⟩
theorem own9 {wr W9 w9 : World} {o : Obj} {base n m size : Nat} {e : TypeId} {v : Value} {xs : List Value} (h : wr.ownsRow base e size v n xs) (hb : Below W9.heap.size W9 w9) (he : W9.heap = wr.heap) (hn : n = m) : (w9.alloc o).ownsRow base e size v m xs := by
 subst hn
 refine World.ownsRow.alloc (ownsRow_carry h (fun q hq => ?_)) o
 have := (h.lt q hq).2
 rw [<- he] at this
 rw [hb.block q this, he]
theorem grown_at {w w' : World} {r q : Option Nat} (h : r = q) (k : w.grownBy w' q) : w.grownBy w' r := by subst h; exact k
theorem row9 {wr W9 w9 w2 : World} {o row : Obj} {r q : Option Nat} {b : Nat} (hrow : wr.heap[b]? = some row) (hb : Below W9.heap.size W9 w9) (he : W9.heap = wr.heap) (hg : (w9.alloc o).grownBy w2 q) (hr : r = q) (hn : r ≠ some b) : w2.heap[b]? = some row := by
 subst hr
 have h1 : b < W9.heap.size := by rw [he]; exact row_lt hrow
 have h2 := hb.size
 rw [hg.block b (by simp; omega) (fun e => hn e.symm), Below.heap_alloc w9 o b (by omega), hb.block b h1, he, hrow]
theorem blk9 {wr W9 w9 w2 : World} {o : Obj} {r q : Option Nat} {b : Nat} (hrow : b < wr.heap.size) (hb : Below W9.heap.size W9 w9) (he : W9.heap = wr.heap) (hg : (w9.alloc o).grownBy w2 q) (hr : r = q) (hn : r ≠ some b) : w2.heap[b]? = wr.heap[b]? := by
 subst hr
 have h1 : b < W9.heap.size := by rw [he]; exact hrow
 have h2 := hb.size
 rw [hg.block b (by simp; omega) (fun e => hn e.symm), Below.heap_alloc w9 o b (by omega), hb.block b h1, he]
theorem old9 {wr W9 w9 : World} {o : Obj} {b : Nat} (hrow : b < wr.heap.size) (hb : Below W9.heap.size W9 w9) (he : W9.heap = wr.heap) : (w9.alloc o).heap[b]? = wr.heap[b]? := by
 have h1 : b < W9.heap.size := by rw [he]; exact hrow
 have h2 := hb.size
 rw [Below.heap_alloc w9 o b (by omega), hb.block b h1, he]
end Go.Proofs.YtohcpifekcehjaaGreatDoor
