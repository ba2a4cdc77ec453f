/- Steps to FnBracedNormal. No conditions. -/
import Derived.Test.YtohcpifekcehjaaGreatDoorKSm15
import Derived.Test.YtohcpifekcehjaaGreatDoorKSm7
import Derived.Test.YtohcpifekcehjaaGreatDoorKSm1
import Derived.Test.YtohcpifekcehjaaGreatDoorKSm8
import Derived.Test.YtohcpifekcehjaaGreatDoorKSm9
import Derived.Test.YtohcpifekcehjaaGreatDoorKSm6
import Derived.Deep.RegionLaw
set_option maxHeartbeats 16000000
set_option maxRecDepth 20000
namespace Go.Proofs.YtohcpifekcehjaaGreatDoor
open Go.RowKit Go.Lib
def T_valS (L : List SignD) (E : Int) (b n : Nat) : Prop := ∀ (d p m : Nat) (w : World), 1 <= d -> d <= 9 -> p <= L.length -> m <= 300 -> needJ L p (.value d) <= n -> RdAtS L E b p m flt0 w ->
 Calls Tryz.prog 76 #[.pointer (some ⟨b, 0, none⟩), .int .i64 d] w (ValE (RdAtS L E b) b L.length (10 - d) (readJ L E n (.value d) p m) w)
def T_listS (L : List SignD) (E : Int) (b n : Nat) : Prop := ∀ (d p m : Nat) (w : World), 1 <= d -> d <= 8 -> p <= L.length -> m <= 300 -> needJ L p (.list d []) <= n -> RdAtS L E b p m flt0 w ->
 Calls Tryz.prog 141 #[.pointer (some ⟨b, 0, none⟩), .int .i64 d] w (ValE (RdAtS L E b) b L.length (10 - d) (listR L E n d p m) w)
def T_pairsS (L : List SignD) (E : Int) (b n : Nat) : Prop := ∀ (d p m : Nat) (w : World), 1 <= d -> d <= 8 -> p <= L.length -> m <= 300 -> needJ L p (.pairs d [] []) <= n -> RdAtS L E b p m flt0 w ->
 Calls Tryz.prog 142 #[.pointer (some ⟨b, 0, none⟩), .int .i64 d] w (ValE (RdAtS L E b) b L.length (10 - d) (pairsR L E n d p m) w)
theorem BadT.closeS {L : List SignD} {E : Int} {b N : Nat} {f : Flt} {w w3 w5 wF : World} {e : Ending} (h : BadT (RdAtS L E b) b N f w3 e w5) (hA : Aside (fun q => q = b ∨ w.heap.size <= q) w w3) (hF : Aside (fun q => q = w.heap.size) w5 wF) (hb : b < w.heap.size) : BadT (RdAtS L E b) b N f w e wF := by
 obtain ⟨k, fl, nu, t, A4, n4, c4, A5, n5, c5, p', m', h1, h2, h3, h4⟩ := h
 refine ⟨k, fl, nu, t, A4, n4, c4, A5, n5, c5, p', m', h1, h2.past hF (fun q hq => by omega), h3, ?_⟩
 exact Aside.low ((hA.join h4 (fun q hq _ => .inl hq)).join hF (fun q hq _ => .inr (by omega)))
theorem GoodT.closeS {L : List SignD} {E : Int} {b nT : Nat} {t : TreeD} {q m' : Nat} {w w3 w5 wF : World} {e : Ending} (h : GoodT (RdAtS L E b) b nT t q m' w3 e w5) (hA : Aside (fun q => q = b ∨ w.heap.size <= q) w w3) (hF : Aside (fun q => q = w.heap.size) w5 wF) (hlt : w.heap.size < w3.heap.size) (hb : b < w.heap.size) : GoodT (RdAtS L E b) b nT t q m' w e wF := by
 obtain ⟨cs, h1, h2, h3, h4⟩ := h
 refine ⟨cs, h1, h2.carry (fun x hx => hF.block x hx.2 (by omega)) (fun x hx => ⟨by omega, Nat.lt_of_lt_of_le hx.2 hF.size⟩), h3.past hF (fun q hq => by omega), ?_⟩
 exact Aside.low ((hA.join h4 (fun q hq _ => .inl hq)).join hF (fun q hq _ => .inr (by omega)))
theorem kindAt_range {L : List SignD} (hL : SgOk L) (p : Nat) : 0 <= kindAt L p /\ kindAt L p <= 11 := by
 rcases hx : L[p]? with _ | x
 ·rw [kindAt_none hx]; omega
 ·rw [kindAt_some hx]
  have := hL.kind p x hx
  omega
theorem hin_lit : inB 0 4 6 = false /\ inB 1 4 6 = false /\ inB 2 4 6 = false /\ inB 3 4 6 = false /\ inB 4 4 6 = true /\ inB 5 4 6 = true /\ inB 6 4 6 = true /\ inB 7 4 6 = false /\ inB 8 4 6 = false /\ inB 9 4 6 = false /\ inB 10 4 6 = false /\ inB 11 4 6 = false := by decide
theorem c_vals_form (L : List SignD) (E : Int) (b n d p m : Nat) (w : World) (hL : SgOk L) (hpl : p <= L.length) (h : RdAtS L E b p m flt0 w) (hk : ¬ (kindAt L p = 1 ∨ kindAt L p = 3 ∨ 7 <= kindAt L p)) :
  Calls Tryz.prog 76 #[.pointer (some ⟨b, 0, none⟩), .int .i64 d] w (ValE (RdAtS L E b) b L.length (10 - d) (readJ L E (n + 1) (.value d) p m) w) := by
 have HRd := hid h
 have hlb := h.lt
 have hlen := hL.len
 have hnb : ¬ w.heap.size = b := by omega
 have htr := kindAt_range hL p
 obtain ⟨t, ht⟩ : ∃ t, t = kindAt L p := ⟨_, rfl⟩
 obtain ⟨pl, hplc⟩ : ∃ pl, pl = placeAt L E p := ⟨_, rfl⟩
 obtain ⟨r, hr⟩ : ∃ r, r = readJ L E (n + 1) (.value d) p m := ⟨_, rfl⟩
 rw [<- hr]
 rw [<- ht] at htr
 have HT := hid ht
 have HP := hid hplc
 have HR := hid hr
 rw [readJ_form hk] at HR
 rw [<- ht] at hk
 have hcs : t = 0 ∨ t = 2 ∨ t = 4 ∨ t = 5 ∨ t = 6 := by omega
 clear hk ht hr h hplc htr
 rcases hcs with rfl | rfl | rfl | rfl | rfl
 all_goals
  go_enter Tryz.func76, Tryz.ntmps76
  go_wp2_with fail
  refine (c_rs_next L E b p m flt0 _ (by omega) (HRd.out.below bel)).mono ?_
  rintro e w1 ⟨rfl, hb1⟩
  rw [<- HT.out, <- HP.out]
  have HB1 := hid (bel : Below w.heap.size w w1)
  have HT1 := hid ((hb1.block w.heap.size (by simp)).trans (heap_at (w := w) (o := .cells #[.int .i64 0, .bool false, .int .i64 0, .string ⟨#[]⟩, .slice none 0 0, .slice none 0 0] 34) rfl))
  have HR1 := hid (HRd.out.below HB1.out)
  have hl1 := row_lt HT1.out
  clear hb1
  obtain ⟨q0, q1, q2, q3, q4, q5, q6, q7, q8, q9, q10, q11⟩ := hin_lit
  go_wp2_with (go_at_call 115; refine (c_spec_l01In _ _ _ _).mono ?_; rintro e w9 ⟨rfl, rfl⟩)
  refine (c_rs_bad_new L E 4 pl b p m flt0 _ HR1.out rfl).mono ?_
  rintro e w2 ⟨rfl, hR2, hA2⟩
  have HR2 := hid (show RdAtS L E b p m (badF L E 4 p) w2 by unfold badF; rw [<- HP.out]; exact hR2)
  have HA2 := hid hA2
  have HT2 := hid ((hA2.block _ hl1 hnb).trans HT1.out)
  have hl2 := row_lt HT2.out
  clear hR2 hA2
  obtain ⟨x0, x1, x2, x3, x4, x5, xf⟩ := row6 HT2.out
  go_wp2_with fail
  exact bodyPost_ret (v := .agg #[.int .i64 0, .bool false, .int .i64 0, .string ⟨#[]⟩, .slice none 0 0, .slice none 0 0]) (by simp only [results, Tryz.results76]; go_simp) rfl (ValE.bad HR.out (BadT.closeS ⟨0, false, 0, ⟨#[]⟩, none, 0, 0, none, 0, 0, p, m, rfl, HR2.out, hpl, HA2.out⟩ (Aside.of_below HB1.out) asd hlb))
theorem c_vals_deep (L : List SignD) (E : Int) (b n d p m : Nat) (w : World) (hL : SgOk L) (hpl : p <= L.length) (h : RdAtS L E b p m flt0 w) (hk : kindAt L p = 1 ∨ kindAt L p = 3 ∨ 7 <= kindAt L p) (h8 : 8 < d) :
  Calls Tryz.prog 76 #[.pointer (some ⟨b, 0, none⟩), .int .i64 d] w (ValE (RdAtS L E b) b L.length (10 - d) (readJ L E (n + 1) (.value d) p m) w) := by
 have HRd := hid h
 have hlb := h.lt
 have hlen := hL.len
 have hnb : ¬ w.heap.size = b := by omega
 have htr := kindAt_range hL p
 obtain ⟨t, ht⟩ : ∃ t, t = kindAt L p := ⟨_, rfl⟩
 obtain ⟨pl, hplc⟩ : ∃ pl, pl = placeAt L E p := ⟨_, rfl⟩
 obtain ⟨r, hr⟩ : ∃ r, r = readJ L E (n + 1) (.value d) p m := ⟨_, rfl⟩
 rw [<- hr]
 rw [<- ht] at htr
 have HT := hid ht
 have HP := hid hplc
 have HR := hid hr
 rw [readJ_deep hk h8] at HR
 have hcs : t = 1 ∨ t = 3 ∨ t = 7 ∨ t = 8 ∨ t = 9 ∨ t = 10 ∨ t = 11 := by rw [<- ht] at hk; omega
 have d8 : (8 : Int) < d := by omega
 clear hk h8 ht hr h hplc htr
 rcases hcs with rfl | rfl | rfl | rfl | rfl | rfl | rfl
 all_goals
  go_enter Tryz.func76, Tryz.ntmps76
  go_wp2_with fail
  refine (c_rs_next L E b p m flt0 _ (by omega) (HRd.out.below bel)).mono ?_
  rintro e w1 ⟨rfl, hb1⟩
  rw [<- HT.out, <- HP.out]
  have HB1 := hid (bel : Below w.heap.size w w1)
  have HT1 := hid ((hb1.block w.heap.size (by simp)).trans (heap_at (w := w) (o := .cells #[.int .i64 0, .bool false, .int .i64 0, .string ⟨#[]⟩, .slice none 0 0, .slice none 0 0] 34) rfl))
  have HR1 := hid (HRd.out.below HB1.out)
  have hl1 := row_lt HT1.out
  clear hb1
  obtain ⟨q0, q1, q2, q3, q4, q5, q6, q7, q8, q9, q10, q11⟩ := hin_lit
  go_wp2_with (go_at_call 115; refine (c_spec_l01In _ _ _ _).mono ?_; rintro e w9 ⟨rfl, rfl⟩)
  refine (c_rs_bad_new L E 6 pl b p m flt0 _ HR1.out rfl).mono ?_
  rintro e w2 ⟨rfl, hR2, hA2⟩
  have HR2 := hid (show RdAtS L E b p m (badF L E 6 p) w2 by unfold badF; rw [<- HP.out]; exact hR2)
  have HA2 := hid hA2
  have HT2 := hid ((hA2.block _ hl1 hnb).trans HT1.out)
  have hl2 := row_lt HT2.out
  clear hR2 hA2
  obtain ⟨x0, x1, x2, x3, x4, x5, xf⟩ := row6 HT2.out
  go_wp2_with fail
  exact bodyPost_ret (v := .agg #[.int .i64 0, .bool false, .int .i64 0, .string ⟨#[]⟩, .slice none 0 0, .slice none 0 0]) (by simp only [results, Tryz.results76]; go_simp) rfl (ValE.bad HR.out (BadT.closeS ⟨0, false, 0, ⟨#[]⟩, none, 0, 0, none, 0, 0, p, m, rfl, HR2.out, hpl, HA2.out⟩ (Aside.of_below HB1.out) asd hlb))
theorem c_vals_many (L : List SignD) (E : Int) (b n d p m : Nat) (w : World) (hL : SgOk L) (hpl : p <= L.length) (h : RdAtS L E b p m flt0 w) (hm : m <= 300) (hk : kindAt L p = 1 ∨ kindAt L p = 3 ∨ 7 <= kindAt L p) (h8 : ¬ 8 < d) (h3 : 300 <= m) :
  Calls Tryz.prog 76 #[.pointer (some ⟨b, 0, none⟩), .int .i64 d] w (ValE (RdAtS L E b) b L.length (10 - d) (readJ L E (n + 1) (.value d) p m) w) := by
 have HRd := hid h
 have hlb := h.lt
 have hlen := hL.len
 have hnb : ¬ w.heap.size = b := by omega
 have htr := kindAt_range hL p
 obtain ⟨t, ht⟩ : ∃ t, t = kindAt L p := ⟨_, rfl⟩
 obtain ⟨pl, hplc⟩ : ∃ pl, pl = placeAt L E p := ⟨_, rfl⟩
 obtain ⟨r, hr⟩ : ∃ r, r = readJ L E (n + 1) (.value d) p m := ⟨_, rfl⟩
 rw [<- hr]
 rw [<- ht] at htr
 have HT := hid ht
 have HP := hid hplc
 have HR := hid hr
 rw [readJ_many hk h8 h3] at HR
 have hcs : t = 1 ∨ t = 3 ∨ t = 7 ∨ t = 8 ∨ t = 9 ∨ t = 10 ∨ t = 11 := by rw [<- ht] at hk; omega
 have d8 : decide ((8 : Int) < d) = false := decide_eq_false (by omega)
 have d300 : (300 : Int) < (m : Int) + 1 := by omega
 have hm9 : (m : Int) <= 300 := by omega
 clear hk h8 h3 ht hr h hplc htr
 rcases hcs with rfl | rfl | rfl | rfl | rfl | rfl | rfl
 all_goals
  go_enter Tryz.func76, Tryz.ntmps76
  go_wp2_with fail
  refine (c_rs_next L E b p m flt0 _ (by omega) (HRd.out.below bel)).mono ?_
  rintro e w1 ⟨rfl, hb1⟩
  rw [<- HT.out, <- HP.out]
  have HB1 := hid (bel : Below w.heap.size w w1)
  have HT1 := hid ((hb1.block w.heap.size (by simp)).trans (heap_at (w := w) (o := .cells #[.int .i64 0, .bool false, .int .i64 0, .string ⟨#[]⟩, .slice none 0 0, .slice none 0 0] 34) rfl))
  have HR1 := hid (HRd.out.below HB1.out)
  have hl1 := row_lt HT1.out
  clear hb1
  obtain ⟨q0, q1, q2, q3, q4, q5, q6, q7, q8, q9, q10, q11⟩ := hin_lit
  obtain ⟨A, c, hbx, -, -⟩ := HR1.out
  unfold rdC at hbx
  obtain ⟨a0, a1, a2, a3, a4, a5, a6, af⟩ := row7r hbx
  have l1 := row_lt hbx
  clear hbx
  go_wp2_with (go_at_call 115; refine (c_spec_l01In _ _ _ _).mono ?_; rintro e w9 ⟨rfl, rfl⟩)
  obtain ⟨w8, hw8⟩ : ∃ W, W = w1.setCell ⟨b, 3, none⟩ (.int .i64 ((m : Int) + 1)) := ⟨_, rfl⟩
  rw [<- hw8]
  have hA8 : Aside (fun q => q = b) w1 w8 := by rw [hw8]; exact aside_set rfl (Aside.refl _ _)
  have hR8 : RdAtS L E b p (m + 1) flt0 w8 := RdAtS.poke HR1.out hA8 (fun A c h => by rw [hw8]; unfold rdC at h ⊢; exact set7_3 h)
  have HR8 := hid hR8
  have HA8 := hid hA8
  have HT8 := hid ((hA8.block _ hl1 hnb).trans HT1.out)
  have hl8 := row_lt HT8.out
  clear hw8 hA8 hR8 a0 a1 a2 a3 a4 a5 a6 af
  refine (c_rs_bad_new L E 7 pl b p (m + 1) flt0 _ HR8.out rfl).mono ?_
  rintro e w2 ⟨rfl, hR2, hA2⟩
  have HR2 := hid (show RdAtS L E b p (m + 1) (badF L E 7 p) w2 by unfold badF; rw [<- HP.out]; exact hR2)
  have HA2 := hid hA2
  have HT2 := hid ((hA2.block _ hl8 hnb).trans HT8.out)
  have hl2 := row_lt HT2.out
  clear hR2 hA2
  obtain ⟨x0, x1, x2, x3, x4, x5, xf⟩ := row6 HT2.out
  go_wp2_with fail
  exact bodyPost_ret (v := .agg #[.int .i64 0, .bool false, .int .i64 0, .string ⟨#[]⟩, .slice none 0 0, .slice none 0 0]) (by simp only [results, Tryz.results76]; go_simp) rfl (ValE.bad HR.out (BadT.closeS ⟨0, false, 0, ⟨#[]⟩, none, 0, 0, none, 0, 0, p, (m + 1), rfl, HR2.out, hpl, HA2.out⟩ ((Aside.of_below HB1.out).trans (HA8.out.mono (fun q h => .inl h))) asd hlb))
theorem c_vals_text (L : List SignD) (E : Int) (b n d p m : Nat) (x : SignD) (w : World) (hL : SgOk L) (hx : L[p]? = some x) (hk : x.kind = 7) (hd8 : ¬ 8 < d) (hm3 : ¬ 300 <= m) (h : RdAtS L E b p m flt0 w) (hsz : ¬ 400 < x.text.size) :
  Calls Tryz.prog 76 #[.pointer (some ⟨b, 0, none⟩), .int .i64 d] w (ValE (RdAtS L E b) b L.length (10 - d) (readJ L E (n + 1) (.value d) p m) w) := by
 have HRd := hid h
 have hlb := h.lt
 have hlen := hL.len
 have hpl : p < L.length := (List.getElem?_eq_some_iff.1 hx).1
 have hz0 : (0 : Int) <= p := by omega
 have hz1 : (p : Int) < L.length := by omega
 have hnb : ¬ w.heap.size = b := by omega
 obtain ⟨r, hr⟩ : ∃ r, r = readJ L E (n + 1) (.value d) p m := ⟨_, rfl⟩
 obtain ⟨pl, hplc⟩ : ∃ pl, pl = placeAt L E p := ⟨_, rfl⟩
 obtain ⟨nd, hnd⟩ : ∃ k, 10 - d = k + 1 := ⟨9 - d, by omega⟩
 rw [<- hr, hnd]
 have hkk : kindAt L p = 7 := (kindAt_some hx).trans hk
 rw [readJ_go hx (by rw [hkk]; decide) hd8 hm3] at hr
 have HP := hid hplc
 have HK := hid hkk
 have HX := hid hx
 have HN := hid hnd
 have htx := hL.text p x hx
 have hnx := hL.num p x hx
 unfold I64 at hnx
 obtain ⟨hnx1, hnx2⟩ := hnx
 have d8 : decide ((8 : Int) < d) = false := decide_eq_false (by omega)
 have d300 : decide ((300 : Int) < (m : Int) + 1) = false := decide_eq_false (by omega)
 have hm9 : (m : Int) <= 300 := by omega
 rw [if_pos hk, if_neg hsz] at hr
 have HR := hid hr
 have dsz : decide ((400 : Int) < x.text.size) = false := decide_eq_false (by omega)
 clear hsz
 clear hr h hx hkk hk hnd hd8 hm3 hplc
 go_enter Tryz.func76, Tryz.ntmps76
 go_wp2_with fail
 refine (c_rs_next L E b p m flt0 _ (by omega) (HRd.out.below bel)).mono ?_
 rintro e w1 ⟨rfl, hb1⟩
 rw [HK.out, <- HP.out]
 have HB1 := hid (bel : Below w.heap.size w w1)
 have HT1 := hid ((hb1.block w.heap.size (by simp)).trans (heap_at (w := w) (o := .cells #[.int .i64 0, .bool false, .int .i64 0, .string ⟨#[]⟩, .slice none 0 0, .slice none 0 0] 34) rfl))
 have HR1 := hid (HRd.out.below HB1.out)
 have hl1 := row_lt HT1.out
 obtain ⟨q0, q1, q2, q3, q4, q5, q6, q7, q8, q9, q10, q11⟩ := hin_lit
 obtain ⟨A, c, hbx, -, -⟩ := HR1.out
 unfold rdC at hbx
 obtain ⟨a0, a1, a2, a3, a4, a5, a6, af⟩ := row7r hbx
 have l1 := row_lt hbx
 clear hbx hb1
 go_upto_region 9 with (go_at_call 115; refine (c_spec_l01In _ _ _ _).mono ?_; rintro e w9 ⟨rfl, rfl⟩)
 obtain ⟨w2, hw2⟩ : ∃ W, W = w1.setCell ⟨b, 3, none⟩ (.int .i64 ((m : Int) + 1)) := ⟨_, rfl⟩
 have hA2 : Aside (fun q => q = b) w1 w2 := by rw [hw2]; exact aside_set rfl (Aside.refl _ _)
 have hR2 : RdAtS L E b p (m + 1) flt0 w2 := RdAtS.poke HR1.out hA2 (fun A c h => by rw [hw2]; unfold rdC at h ⊢; exact set7_3 h)
 rw [<- hw2]
 have HR2 := hid hR2
 have HA2 := hid hA2
 have HT2 := hid ((hA2.block _ hl1 hnb).trans HT1.out)
 have hl2 := row_lt HT2.out
 clear a0 a1 a2 a3 a4 a5 a6 af hR2 hA2 hw2 q0 q1 q2 q3 q4 q5 q6 q7 q8 q9 q10 q11
 obtain ⟨A2, c2, hbx, hrow, -⟩ := HR2.out
 unfold rdC at hbx
 obtain ⟨a0, a1, a2, a3, a4, a5, a6, af⟩ := row7r hbx
 have l2 := row_lt hbx
 obtain ⟨g, y, rfl, hy, hlc, lg, s0, s1, s2, s3⟩ := sign_row (p := p) hrow hpl
 obtain rfl : y = x := Option.some.inj (hy.symm.trans HX.out)
 clear hbx hrow hy
 go_cut [7] from 46 to 55 (fun s7 wx => s7 = .pointer (some ⟨w2.heap.size, 0, none⟩) /\ wx.heap[w2.heap.size]? = some (.cells #[.int .i64 y.kind, .string y.text, .int .i64 y.num, .int .i64 y.at'] 92 (0, 0)) /\ Below w2.heap.size w2 wx)
 case first =>
  go_region_law (fail)
  all_goals
   go_wp2_with fail
   go_meet
   exact ⟨rfl, heap_at (by simp), bel⟩
 case rest =>
  obtain ⟨rfl, hXr, hBc⟩ := hcut
  have HXr := hid hXr
  have HBc := hid hBc
  have HRc := hid (HR2.out.below hBc)
  have HTc := hid ((hBc.block _ hl2).trans HT2.out)
  have hl3 := row_lt HTc.out
  have hl3x := row_lt hXr
  have hnx3 : ¬ w2.heap.size = b := by omega
  have hnxt : ¬ w2.heap.size = w.heap.size := by omega
  clear a0 a1 a2 a3 a4 a5 a6 af s0 s1 s2 s3 hXr hBc
  obtain ⟨A3, c3, hbx, -, -⟩ := HRc.out
  unfold rdC at hbx
  obtain ⟨a0, a1, a2, a3, a4, a5, a6, af⟩ := row7r hbx
  have l3 := row_lt hbx
  clear hbx
  go_upto_region 11 with fail
  obtain ⟨w3, hw3⟩ : ∃ W, W = wc.setCell ⟨b, 1, none⟩ (.int .i64 ((p : Int) + 1)) := ⟨_, rfl⟩
  have hA3 : Aside (fun q => q = b) wc w3 := by rw [hw3]; exact aside_set rfl (Aside.refl _ _)
  have hR3 : RdAtS L E b (p + 1) (m + 1) flt0 w3 := RdAtS.poke HRc.out hA3 (fun A c h => by rw [hw3]; unfold rdC at h ⊢; exact set7_1 h)
  rw [<- hw3]
  have HR3 := hid hR3
  have HT3 := hid ((hA3.block _ (row_lt HTc.out) hnb).trans HTc.out)
  have HX3 := hid ((hA3.block _ (row_lt HXr.out) hnx3).trans HXr.out)
  have HAw := hid (show Aside (fun q => q = b ∨ w.heap.size <= q) w w3 from (Aside.of_below HB1.out).trans ((HA2.out.mono (fun q h => .inl h)).trans ((Aside.of_below HBc.out).trans (hA3.mono (fun q h => .inl h)))))
  have hl4 := row_lt HT3.out
  have hl4x := row_lt HX3.out
  have hl4b := hR3.lt
  clear a0 a1 a2 a3 a4 a5 a6 af hR3 hA3 hw3
  obtain ⟨z0, z1, z2, z3, zf⟩ := row4 HX3.out
  obtain ⟨x0, x1, x2, x3, x4, x5, xf⟩ := row6 HT3.out
  go_wp2_with fail
  refine (c_rs_TextTree y.text _).mono ?_
  rintro e w9 ⟨rfl, hb9⟩
  have HB9 := hid hb9
  have HT9 := hid ((hb9.block _ hl4).trans HT3.out)
  have hl9 := row_lt HT9.out
  clear x0 x1 x2 x3 x4 x5 xf z0 z1 z2 z3 zf hb9
  obtain ⟨x0, x1, x2, x3, x4, x5, xf⟩ := row6 HT9.out
  go_wp2_with fail
  exact bodyPost_ret (v := .agg #[.int .i64 4, .bool false, .int .i64 0, .string y.text, .slice none 0 0, .slice none 0 0]) (by simp only [results, Tryz.results76]; go_simp) rfl (ValE.good HR.out (GoodT.closeS (w3 := w3) ⟨[.int .i64 4, .bool false, .int .i64 0, .string y.text, .slice none 0 0, .slice none 0 0], rfl, own_leaf (by unfold I64; decide) (by unfold I64; decide) (by omega), HR3.out.below HB9.out, Aside.of_below HB9.out⟩ HAw.out asd (by omega) hlb))
theorem c_vals_num (L : List SignD) (E : Int) (b n d p m : Nat) (x : SignD) (w : World) (hL : SgOk L) (hx : L[p]? = some x) (hk : x.kind = 8) (hd8 : ¬ 8 < d) (hm3 : ¬ 300 <= m) (h : RdAtS L E b p m flt0 w) :
  Calls Tryz.prog 76 #[.pointer (some ⟨b, 0, none⟩), .int .i64 d] w (ValE (RdAtS L E b) b L.length (10 - d) (readJ L E (n + 1) (.value d) p m) w) := by
 have HRd := hid h
 have hlb := h.lt
 have hlen := hL.len
 have hpl : p < L.length := (List.getElem?_eq_some_iff.1 hx).1
 have hz0 : (0 : Int) <= p := by omega
 have hz1 : (p : Int) < L.length := by omega
 have hnb : ¬ w.heap.size = b := by omega
 obtain ⟨r, hr⟩ : ∃ r, r = readJ L E (n + 1) (.value d) p m := ⟨_, rfl⟩
 obtain ⟨pl, hplc⟩ : ∃ pl, pl = placeAt L E p := ⟨_, rfl⟩
 obtain ⟨nd, hnd⟩ : ∃ k, 10 - d = k + 1 := ⟨9 - d, by omega⟩
 rw [<- hr, hnd]
 have hkk : kindAt L p = 8 := (kindAt_some hx).trans hk
 rw [readJ_go hx (by rw [hkk]; decide) hd8 hm3] at hr
 have HP := hid hplc
 have HK := hid hkk
 have HX := hid hx
 have HN := hid hnd
 have htx := hL.text p x hx
 have hnx := hL.num p x hx
 unfold I64 at hnx
 obtain ⟨hnx1, hnx2⟩ := hnx
 have d8 : decide ((8 : Int) < d) = false := decide_eq_false (by omega)
 have d300 : decide ((300 : Int) < (m : Int) + 1) = false := decide_eq_false (by omega)
 have hm9 : (m : Int) <= 300 := by omega
 rw [if_neg (by rw [hk]; decide), if_pos hk] at hr
 have HR := hid hr
 clear hr h hx hkk hk hnd hd8 hm3 hplc
 go_enter Tryz.func76, Tryz.ntmps76
 go_wp2_with fail
 refine (c_rs_next L E b p m flt0 _ (by omega) (HRd.out.below bel)).mono ?_
 rintro e w1 ⟨rfl, hb1⟩
 rw [HK.out, <- HP.out]
 have HB1 := hid (bel : Below w.heap.size w w1)
 have HT1 := hid ((hb1.block w.heap.size (by simp)).trans (heap_at (w := w) (o := .cells #[.int .i64 0, .bool false, .int .i64 0, .string ⟨#[]⟩, .slice none 0 0, .slice none 0 0] 34) rfl))
 have HR1 := hid (HRd.out.below HB1.out)
 have hl1 := row_lt HT1.out
 obtain ⟨q0, q1, q2, q3, q4, q5, q6, q7, q8, q9, q10, q11⟩ := hin_lit
 obtain ⟨A, c, hbx, -, -⟩ := HR1.out
 unfold rdC at hbx
 obtain ⟨a0, a1, a2, a3, a4, a5, a6, af⟩ := row7r hbx
 have l1 := row_lt hbx
 clear hbx hb1
 go_upto_region 9 with (go_at_call 115; refine (c_spec_l01In _ _ _ _).mono ?_; rintro e w9 ⟨rfl, rfl⟩)
 obtain ⟨w2, hw2⟩ : ∃ W, W = w1.setCell ⟨b, 3, none⟩ (.int .i64 ((m : Int) + 1)) := ⟨_, rfl⟩
 have hA2 : Aside (fun q => q = b) w1 w2 := by rw [hw2]; exact aside_set rfl (Aside.refl _ _)
 have hR2 : RdAtS L E b p (m + 1) flt0 w2 := RdAtS.poke HR1.out hA2 (fun A c h => by rw [hw2]; unfold rdC at h ⊢; exact set7_3 h)
 rw [<- hw2]
 have HR2 := hid hR2
 have HA2 := hid hA2
 have HT2 := hid ((hA2.block _ hl1 hnb).trans HT1.out)
 have hl2 := row_lt HT2.out
 clear a0 a1 a2 a3 a4 a5 a6 af hR2 hA2 hw2 q0 q1 q2 q3 q4 q5 q6 q7 q8 q9 q10 q11
 obtain ⟨A2, c2, hbx, hrow, -⟩ := HR2.out
 unfold rdC at hbx
 obtain ⟨a0, a1, a2, a3, a4, a5, a6, af⟩ := row7r hbx
 have l2 := row_lt hbx
 obtain ⟨g, y, rfl, hy, hlc, lg, s0, s1, s2, s3⟩ := sign_row (p := p) hrow hpl
 obtain rfl : y = x := Option.some.inj (hy.symm.trans HX.out)
 clear hbx hrow hy
 go_cut [7] from 46 to 55 (fun s7 wx => s7 = .pointer (some ⟨w2.heap.size, 0, none⟩) /\ wx.heap[w2.heap.size]? = some (.cells #[.int .i64 y.kind, .string y.text, .int .i64 y.num, .int .i64 y.at'] 92 (0, 0)) /\ Below w2.heap.size w2 wx)
 case first =>
  go_region_law (fail)
  all_goals
   go_wp2_with fail
   go_meet
   exact ⟨rfl, heap_at (by simp), bel⟩
 case rest =>
  obtain ⟨rfl, hXr, hBc⟩ := hcut
  have HXr := hid hXr
  have HBc := hid hBc
  have HRc := hid (HR2.out.below hBc)
  have HTc := hid ((hBc.block _ hl2).trans HT2.out)
  have hl3 := row_lt HTc.out
  have hl3x := row_lt hXr
  have hnx3 : ¬ w2.heap.size = b := by omega
  have hnxt : ¬ w2.heap.size = w.heap.size := by omega
  clear a0 a1 a2 a3 a4 a5 a6 af s0 s1 s2 s3 hXr hBc
  obtain ⟨A3, c3, hbx, -, -⟩ := HRc.out
  unfold rdC at hbx
  obtain ⟨a0, a1, a2, a3, a4, a5, a6, af⟩ := row7r hbx
  have l3 := row_lt hbx
  clear hbx
  go_upto_region 11 with fail
  obtain ⟨w3, hw3⟩ : ∃ W, W = wc.setCell ⟨b, 1, none⟩ (.int .i64 ((p : Int) + 1)) := ⟨_, rfl⟩
  have hA3 : Aside (fun q => q = b) wc w3 := by rw [hw3]; exact aside_set rfl (Aside.refl _ _)
  have hR3 : RdAtS L E b (p + 1) (m + 1) flt0 w3 := RdAtS.poke HRc.out hA3 (fun A c h => by rw [hw3]; unfold rdC at h ⊢; exact set7_1 h)
  rw [<- hw3]
  have HR3 := hid hR3
  have HT3 := hid ((hA3.block _ (row_lt HTc.out) hnb).trans HTc.out)
  have HX3 := hid ((hA3.block _ (row_lt HXr.out) hnx3).trans HXr.out)
  have HAw := hid (show Aside (fun q => q = b ∨ w.heap.size <= q) w w3 from (Aside.of_below HB1.out).trans ((HA2.out.mono (fun q h => .inl h)).trans ((Aside.of_below HBc.out).trans (hA3.mono (fun q h => .inl h)))))
  have hl4 := row_lt HT3.out
  have hl4x := row_lt HX3.out
  have hl4b := hR3.lt
  clear a0 a1 a2 a3 a4 a5 a6 af hR3 hA3 hw3
  obtain ⟨z0, z1, z2, z3, zf⟩ := row4 HX3.out
  obtain ⟨x0, x1, x2, x3, x4, x5, xf⟩ := row6 HT3.out
  go_wp2_with fail
  refine (c_rs_IntTree y.num _).mono ?_
  rintro e w9 ⟨rfl, hb9⟩
  have HB9 := hid hb9
  have HT9 := hid ((hb9.block _ hl4).trans HT3.out)
  have hl9 := row_lt HT9.out
  clear x0 x1 x2 x3 x4 x5 xf z0 z1 z2 z3 zf hb9
  obtain ⟨x0, x1, x2, x3, x4, x5, xf⟩ := row6 HT9.out
  go_wp2_with fail
  exact bodyPost_ret (v := .agg #[.int .i64 3, .bool false, .int .i64 y.num, .string ⟨#[]⟩, .slice none 0 0, .slice none 0 0]) (by simp only [results, Tryz.results76]; go_simp) rfl (ValE.good HR.out (GoodT.closeS (w3 := w3) ⟨[.int .i64 3, .bool false, .int .i64 y.num, .string ⟨#[]⟩, .slice none 0 0, .slice none 0 0], rfl, own_leaf (by unfold I64; decide) (by unfold I64; omega) (by decide), HR3.out.below HB9.out, Aside.of_below HB9.out⟩ HAw.out asd (by omega) hlb))
theorem c_vals_null (L : List SignD) (E : Int) (b n d p m : Nat) (x : SignD) (w : World) (hL : SgOk L) (hx : L[p]? = some x) (hk : x.kind = 11) (hd8 : ¬ 8 < d) (hm3 : ¬ 300 <= m) (h : RdAtS L E b p m flt0 w) :
  Calls Tryz.prog 76 #[.pointer (some ⟨b, 0, none⟩), .int .i64 d] w (ValE (RdAtS L E b) b L.length (10 - d) (readJ L E (n + 1) (.value d) p m) w) := by
 have HRd := hid h
 have hlb := h.lt
 have hlen := hL.len
 have hpl : p < L.length := (List.getElem?_eq_some_iff.1 hx).1
 have hz0 : (0 : Int) <= p := by omega
 have hz1 : (p : Int) < L.length := by omega
 have hnb : ¬ w.heap.size = b := by omega
 obtain ⟨r, hr⟩ : ∃ r, r = readJ L E (n + 1) (.value d) p m := ⟨_, rfl⟩
 obtain ⟨pl, hplc⟩ : ∃ pl, pl = placeAt L E p := ⟨_, rfl⟩
 obtain ⟨nd, hnd⟩ : ∃ k, 10 - d = k + 1 := ⟨9 - d, by omega⟩
 rw [<- hr, hnd]
 have hkk : kindAt L p = 11 := (kindAt_some hx).trans hk
 rw [readJ_go hx (by rw [hkk]; decide) hd8 hm3] at hr
 have HP := hid hplc
 have HK := hid hkk
 have HX := hid hx
 have HN := hid hnd
 have htx := hL.text p x hx
 have hnx := hL.num p x hx
 unfold I64 at hnx
 obtain ⟨hnx1, hnx2⟩ := hnx
 have d8 : decide ((8 : Int) < d) = false := decide_eq_false (by omega)
 have d300 : decide ((300 : Int) < (m : Int) + 1) = false := decide_eq_false (by omega)
 have hm9 : (m : Int) <= 300 := by omega
 rw [if_neg (by rw [hk]; decide), if_neg (by rw [hk]; decide), if_pos hk] at hr
 have HR := hid hr
 clear hr h hx hkk hk hnd hd8 hm3 hplc
 go_enter Tryz.func76, Tryz.ntmps76
 go_wp2_with fail
 refine (c_rs_next L E b p m flt0 _ (by omega) (HRd.out.below bel)).mono ?_
 rintro e w1 ⟨rfl, hb1⟩
 rw [HK.out, <- HP.out]
 have HB1 := hid (bel : Below w.heap.size w w1)
 have HT1 := hid ((hb1.block w.heap.size (by simp)).trans (heap_at (w := w) (o := .cells #[.int .i64 0, .bool false, .int .i64 0, .string ⟨#[]⟩, .slice none 0 0, .slice none 0 0] 34) rfl))
 have HR1 := hid (HRd.out.below HB1.out)
 have hl1 := row_lt HT1.out
 obtain ⟨q0, q1, q2, q3, q4, q5, q6, q7, q8, q9, q10, q11⟩ := hin_lit
 obtain ⟨A, c, hbx, -, -⟩ := HR1.out
 unfold rdC at hbx
 obtain ⟨a0, a1, a2, a3, a4, a5, a6, af⟩ := row7r hbx
 have l1 := row_lt hbx
 clear hbx hb1
 go_upto_region 9 with (go_at_call 115; refine (c_spec_l01In _ _ _ _).mono ?_; rintro e w9 ⟨rfl, rfl⟩)
 obtain ⟨w2, hw2⟩ : ∃ W, W = w1.setCell ⟨b, 3, none⟩ (.int .i64 ((m : Int) + 1)) := ⟨_, rfl⟩
 have hA2 : Aside (fun q => q = b) w1 w2 := by rw [hw2]; exact aside_set rfl (Aside.refl _ _)
 have hR2 : RdAtS L E b p (m + 1) flt0 w2 := RdAtS.poke HR1.out hA2 (fun A c h => by rw [hw2]; unfold rdC at h ⊢; exact set7_3 h)
 rw [<- hw2]
 have HR2 := hid hR2
 have HA2 := hid hA2
 have HT2 := hid ((hA2.block _ hl1 hnb).trans HT1.out)
 have hl2 := row_lt HT2.out
 clear a0 a1 a2 a3 a4 a5 a6 af hR2 hA2 hw2 q0 q1 q2 q3 q4 q5 q6 q7 q8 q9 q10 q11
 obtain ⟨A2, c2, hbx, hrow, -⟩ := HR2.out
 unfold rdC at hbx
 obtain ⟨a0, a1, a2, a3, a4, a5, a6, af⟩ := row7r hbx
 have l2 := row_lt hbx
 obtain ⟨g, y, rfl, hy, hlc, lg, s0, s1, s2, s3⟩ := sign_row (p := p) hrow hpl
 obtain rfl : y = x := Option.some.inj (hy.symm.trans HX.out)
 clear hbx hrow hy
 go_cut [7] from 46 to 55 (fun s7 wx => s7 = .pointer (some ⟨w2.heap.size, 0, none⟩) /\ wx.heap[w2.heap.size]? = some (.cells #[.int .i64 y.kind, .string y.text, .int .i64 y.num, .int .i64 y.at'] 92 (0, 0)) /\ Below w2.heap.size w2 wx)
 case first =>
  go_region_law (fail)
  all_goals
   go_wp2_with fail
   go_meet
   exact ⟨rfl, heap_at (by simp), bel⟩
 case rest =>
  obtain ⟨rfl, hXr, hBc⟩ := hcut
  have HXr := hid hXr
  have HBc := hid hBc
  have HRc := hid (HR2.out.below hBc)
  have HTc := hid ((hBc.block _ hl2).trans HT2.out)
  have hl3 := row_lt HTc.out
  have hl3x := row_lt hXr
  have hnx3 : ¬ w2.heap.size = b := by omega
  have hnxt : ¬ w2.heap.size = w.heap.size := by omega
  clear a0 a1 a2 a3 a4 a5 a6 af s0 s1 s2 s3 hXr hBc
  obtain ⟨A3, c3, hbx, -, -⟩ := HRc.out
  unfold rdC at hbx
  obtain ⟨a0, a1, a2, a3, a4, a5, a6, af⟩ := row7r hbx
  have l3 := row_lt hbx
  clear hbx
  go_upto_region 11 with fail
  obtain ⟨w3, hw3⟩ : ∃ W, W = wc.setCell ⟨b, 1, none⟩ (.int .i64 ((p : Int) + 1)) := ⟨_, rfl⟩
  have hA3 : Aside (fun q => q = b) wc w3 := by rw [hw3]; exact aside_set rfl (Aside.refl _ _)
  have hR3 : RdAtS L E b (p + 1) (m + 1) flt0 w3 := RdAtS.poke HRc.out hA3 (fun A c h => by rw [hw3]; unfold rdC at h ⊢; exact set7_1 h)
  rw [<- hw3]
  have HR3 := hid hR3
  have HT3 := hid ((hA3.block _ (row_lt HTc.out) hnb).trans HTc.out)
  have HX3 := hid ((hA3.block _ (row_lt HXr.out) hnx3).trans HXr.out)
  have HAw := hid (show Aside (fun q => q = b ∨ w.heap.size <= q) w w3 from (Aside.of_below HB1.out).trans ((HA2.out.mono (fun q h => .inl h)).trans ((Aside.of_below HBc.out).trans (hA3.mono (fun q h => .inl h)))))
  have hl4 := row_lt HT3.out
  have hl4x := row_lt HX3.out
  have hl4b := hR3.lt
  clear a0 a1 a2 a3 a4 a5 a6 af hR3 hA3 hw3
  obtain ⟨z0, z1, z2, z3, zf⟩ := row4 HX3.out
  obtain ⟨x0, x1, x2, x3, x4, x5, xf⟩ := row6 HT3.out
  go_wp2_with fail
  exact bodyPost_ret (v := .agg #[.int .i64 1, .bool false, .int .i64 0, .string ⟨#[]⟩, .slice none 0 0, .slice none 0 0]) (by simp only [results, Tryz.results76]; go_simp) rfl (ValE.good HR.out (GoodT.closeS (w3 := w3) ⟨[.int .i64 1, .bool false, .int .i64 0, .string ⟨#[]⟩, .slice none 0 0, .slice none 0 0], rfl, own_leaf (by unfold I64; decide) (by unfold I64; decide) (by decide), HR3.out, Aside.refl _ _⟩ HAw.out asd (by omega) hlb))
theorem c_vals_true (L : List SignD) (E : Int) (b n d p m : Nat) (x : SignD) (w : World) (hL : SgOk L) (hx : L[p]? = some x) (hk : x.kind = 9) (hd8 : ¬ 8 < d) (hm3 : ¬ 300 <= m) (h : RdAtS L E b p m flt0 w) :
  Calls Tryz.prog 76 #[.pointer (some ⟨b, 0, none⟩), .int .i64 d] w (ValE (RdAtS L E b) b L.length (10 - d) (readJ L E (n + 1) (.value d) p m) w) := by
 have HRd := hid h
 have hlb := h.lt
 have hlen := hL.len
 have hpl : p < L.length := (List.getElem?_eq_some_iff.1 hx).1
 have hz0 : (0 : Int) <= p := by omega
 have hz1 : (p : Int) < L.length := by omega
 have hnb : ¬ w.heap.size = b := by omega
 obtain ⟨r, hr⟩ : ∃ r, r = readJ L E (n + 1) (.value d) p m := ⟨_, rfl⟩
 obtain ⟨pl, hplc⟩ : ∃ pl, pl = placeAt L E p := ⟨_, rfl⟩
 obtain ⟨nd, hnd⟩ : ∃ k, 10 - d = k + 1 := ⟨9 - d, by omega⟩
 rw [<- hr, hnd]
 have hkk : kindAt L p = 9 := (kindAt_some hx).trans hk
 rw [readJ_go hx (by rw [hkk]; decide) hd8 hm3] at hr
 have HP := hid hplc
 have HK := hid hkk
 have HX := hid hx
 have HN := hid hnd
 have htx := hL.text p x hx
 have hnx := hL.num p x hx
 unfold I64 at hnx
 obtain ⟨hnx1, hnx2⟩ := hnx
 have d8 : decide ((8 : Int) < d) = false := decide_eq_false (by omega)
 have d300 : decide ((300 : Int) < (m : Int) + 1) = false := decide_eq_false (by omega)
 have hm9 : (m : Int) <= 300 := by omega
 rw [if_neg (by rw [hk]; decide), if_neg (by rw [hk]; decide), if_neg (by rw [hk]; decide), if_neg (by rw [hk]; decide), if_neg (by rw [hk]; decide), show (x.kind == 9) = true by rw [hk]; rfl] at hr
 have HR := hid hr
 clear hr h hx hkk hk hnd hd8 hm3 hplc
 go_enter Tryz.func76, Tryz.ntmps76
 go_wp2_with fail
 refine (c_rs_next L E b p m flt0 _ (by omega) (HRd.out.below bel)).mono ?_
 rintro e w1 ⟨rfl, hb1⟩
 rw [HK.out, <- HP.out]
 have HB1 := hid (bel : Below w.heap.size w w1)
 have HT1 := hid ((hb1.block w.heap.size (by simp)).trans (heap_at (w := w) (o := .cells #[.int .i64 0, .bool false, .int .i64 0, .string ⟨#[]⟩, .slice none 0 0, .slice none 0 0] 34) rfl))
 have HR1 := hid (HRd.out.below HB1.out)
 have hl1 := row_lt HT1.out
 obtain ⟨q0, q1, q2, q3, q4, q5, q6, q7, q8, q9, q10, q11⟩ := hin_lit
 obtain ⟨A, c, hbx, -, -⟩ := HR1.out
 unfold rdC at hbx
 obtain ⟨a0, a1, a2, a3, a4, a5, a6, af⟩ := row7r hbx
 have l1 := row_lt hbx
 clear hbx hb1
 go_upto_region 9 with (go_at_call 115; refine (c_spec_l01In _ _ _ _).mono ?_; rintro e w9 ⟨rfl, rfl⟩)
 obtain ⟨w2, hw2⟩ : ∃ W, W = w1.setCell ⟨b, 3, none⟩ (.int .i64 ((m : Int) + 1)) := ⟨_, rfl⟩
 have hA2 : Aside (fun q => q = b) w1 w2 := by rw [hw2]; exact aside_set rfl (Aside.refl _ _)
 have hR2 : RdAtS L E b p (m + 1) flt0 w2 := RdAtS.poke HR1.out hA2 (fun A c h => by rw [hw2]; unfold rdC at h ⊢; exact set7_3 h)
 rw [<- hw2]
 have HR2 := hid hR2
 have HA2 := hid hA2
 have HT2 := hid ((hA2.block _ hl1 hnb).trans HT1.out)
 have hl2 := row_lt HT2.out
 clear a0 a1 a2 a3 a4 a5 a6 af hR2 hA2 hw2 q0 q1 q2 q3 q4 q5 q6 q7 q8 q9 q10 q11
 obtain ⟨A2, c2, hbx, hrow, -⟩ := HR2.out
 unfold rdC at hbx
 obtain ⟨a0, a1, a2, a3, a4, a5, a6, af⟩ := row7r hbx
 have l2 := row_lt hbx
 obtain ⟨g, y, rfl, hy, hlc, lg, s0, s1, s2, s3⟩ := sign_row (p := p) hrow hpl
 obtain rfl : y = x := Option.some.inj (hy.symm.trans HX.out)
 clear hbx hrow hy
 go_cut [7] from 46 to 55 (fun s7 wx => s7 = .pointer (some ⟨w2.heap.size, 0, none⟩) /\ wx.heap[w2.heap.size]? = some (.cells #[.int .i64 y.kind, .string y.text, .int .i64 y.num, .int .i64 y.at'] 92 (0, 0)) /\ Below w2.heap.size w2 wx)
 case first =>
  go_region_law (fail)
  all_goals
   go_wp2_with fail
   go_meet
   exact ⟨rfl, heap_at (by simp), bel⟩
 case rest =>
  obtain ⟨rfl, hXr, hBc⟩ := hcut
  have HXr := hid hXr
  have HBc := hid hBc
  have HRc := hid (HR2.out.below hBc)
  have HTc := hid ((hBc.block _ hl2).trans HT2.out)
  have hl3 := row_lt HTc.out
  have hl3x := row_lt hXr
  have hnx3 : ¬ w2.heap.size = b := by omega
  have hnxt : ¬ w2.heap.size = w.heap.size := by omega
  clear a0 a1 a2 a3 a4 a5 a6 af s0 s1 s2 s3 hXr hBc
  obtain ⟨A3, c3, hbx, -, -⟩ := HRc.out
  unfold rdC at hbx
  obtain ⟨a0, a1, a2, a3, a4, a5, a6, af⟩ := row7r hbx
  have l3 := row_lt hbx
  clear hbx
  go_upto_region 11 with fail
  obtain ⟨w3, hw3⟩ : ∃ W, W = wc.setCell ⟨b, 1, none⟩ (.int .i64 ((p : Int) + 1)) := ⟨_, rfl⟩
  have hA3 : Aside (fun q => q = b) wc w3 := by rw [hw3]; exact aside_set rfl (Aside.refl _ _)
  have hR3 : RdAtS L E b (p + 1) (m + 1) flt0 w3 := RdAtS.poke HRc.out hA3 (fun A c h => by rw [hw3]; unfold rdC at h ⊢; exact set7_1 h)
  rw [<- hw3]
  have HR3 := hid hR3
  have HT3 := hid ((hA3.block _ (row_lt HTc.out) hnb).trans HTc.out)
  have HX3 := hid ((hA3.block _ (row_lt HXr.out) hnx3).trans HXr.out)
  have HAw := hid (show Aside (fun q => q = b ∨ w.heap.size <= q) w w3 from (Aside.of_below HB1.out).trans ((HA2.out.mono (fun q h => .inl h)).trans ((Aside.of_below HBc.out).trans (hA3.mono (fun q h => .inl h)))))
  have hl4 := row_lt HT3.out
  have hl4x := row_lt HX3.out
  have hl4b := hR3.lt
  clear a0 a1 a2 a3 a4 a5 a6 af hR3 hA3 hw3
  obtain ⟨z0, z1, z2, z3, zf⟩ := row4 HX3.out
  obtain ⟨x0, x1, x2, x3, x4, x5, xf⟩ := row6 HT3.out
  go_wp2_with fail
  exact bodyPost_ret (v := .agg #[.int .i64 2, .bool true, .int .i64 0, .string ⟨#[]⟩, .slice none 0 0, .slice none 0 0]) (by simp only [results, Tryz.results76]; go_simp) rfl (ValE.good HR.out (GoodT.closeS (w3 := w3) ⟨[.int .i64 2, .bool true, .int .i64 0, .string ⟨#[]⟩, .slice none 0 0, .slice none 0 0], rfl, own_leaf (by unfold I64; decide) (by unfold I64; decide) (by decide), HR3.out, Aside.refl _ _⟩ HAw.out asd (by omega) hlb))
theorem c_vals_false (L : List SignD) (E : Int) (b n d p m : Nat) (x : SignD) (w : World) (hL : SgOk L) (hx : L[p]? = some x) (hk : x.kind = 10) (hd8 : ¬ 8 < d) (hm3 : ¬ 300 <= m) (h : RdAtS L E b p m flt0 w) :
  Calls Tryz.prog 76 #[.pointer (some ⟨b, 0, none⟩), .int .i64 d] w (ValE (RdAtS L E b) b L.length (10 - d) (readJ L E (n + 1) (.value d) p m) w) := by
 have HRd := hid h
 have hlb := h.lt
 have hlen := hL.len
 have hpl : p < L.length := (List.getElem?_eq_some_iff.1 hx).1
 have hz0 : (0 : Int) <= p := by omega
 have hz1 : (p : Int) < L.length := by omega
 have hnb : ¬ w.heap.size = b := by omega
 obtain ⟨r, hr⟩ : ∃ r, r = readJ L E (n + 1) (.value d) p m := ⟨_, rfl⟩
 obtain ⟨pl, hplc⟩ : ∃ pl, pl = placeAt L E p := ⟨_, rfl⟩
 obtain ⟨nd, hnd⟩ : ∃ k, 10 - d = k + 1 := ⟨9 - d, by omega⟩
 rw [<- hr, hnd]
 have hkk : kindAt L p = 10 := (kindAt_some hx).trans hk
 rw [readJ_go hx (by rw [hkk]; decide) hd8 hm3] at hr
 have HP := hid hplc
 have HK := hid hkk
 have HX := hid hx
 have HN := hid hnd
 have htx := hL.text p x hx
 have hnx := hL.num p x hx
 unfold I64 at hnx
 obtain ⟨hnx1, hnx2⟩ := hnx
 have d8 : decide ((8 : Int) < d) = false := decide_eq_false (by omega)
 have d300 : decide ((300 : Int) < (m : Int) + 1) = false := decide_eq_false (by omega)
 have hm9 : (m : Int) <= 300 := by omega
 rw [if_neg (by rw [hk]; decide), if_neg (by rw [hk]; decide), if_neg (by rw [hk]; decide), if_neg (by rw [hk]; decide), if_neg (by rw [hk]; decide), show (x.kind == 9) = false by rw [hk]; rfl] at hr
 have HR := hid hr
 clear hr h hx hkk hk hnd hd8 hm3 hplc
 go_enter Tryz.func76, Tryz.ntmps76
 go_wp2_with fail
 refine (c_rs_next L E b p m flt0 _ (by omega) (HRd.out.below bel)).mono ?_
 rintro e w1 ⟨rfl, hb1⟩
 rw [HK.out, <- HP.out]
 have HB1 := hid (bel : Below w.heap.size w w1)
 have HT1 := hid ((hb1.block w.heap.size (by simp)).trans (heap_at (w := w) (o := .cells #[.int .i64 0, .bool false, .int .i64 0, .string ⟨#[]⟩, .slice none 0 0, .slice none 0 0] 34) rfl))
 have HR1 := hid (HRd.out.below HB1.out)
 have hl1 := row_lt HT1.out
 obtain ⟨q0, q1, q2, q3, q4, q5, q6, q7, q8, q9, q10, q11⟩ := hin_lit
 obtain ⟨A, c, hbx, -, -⟩ := HR1.out
 unfold rdC at hbx
 obtain ⟨a0, a1, a2, a3, a4, a5, a6, af⟩ := row7r hbx
 have l1 := row_lt hbx
 clear hbx hb1
 go_upto_region 9 with (go_at_call 115; refine (c_spec_l01In _ _ _ _).mono ?_; rintro e w9 ⟨rfl, rfl⟩)
 obtain ⟨w2, hw2⟩ : ∃ W, W = w1.setCell ⟨b, 3, none⟩ (.int .i64 ((m : Int) + 1)) := ⟨_, rfl⟩
 have hA2 : Aside (fun q => q = b) w1 w2 := by rw [hw2]; exact aside_set rfl (Aside.refl _ _)
 have hR2 : RdAtS L E b p (m + 1) flt0 w2 := RdAtS.poke HR1.out hA2 (fun A c h => by rw [hw2]; unfold rdC at h ⊢; exact set7_3 h)
 rw [<- hw2]
 have HR2 := hid hR2
 have HA2 := hid hA2
 have HT2 := hid ((hA2.block _ hl1 hnb).trans HT1.out)
 have hl2 := row_lt HT2.out
 clear a0 a1 a2 a3 a4 a5 a6 af hR2 hA2 hw2 q0 q1 q2 q3 q4 q5 q6 q7 q8 q9 q10 q11
 obtain ⟨A2, c2, hbx, hrow, -⟩ := HR2.out
 unfold rdC at hbx
 obtain ⟨a0, a1, a2, a3, a4, a5, a6, af⟩ := row7r hbx
 have l2 := row_lt hbx
 obtain ⟨g, y, rfl, hy, hlc, lg, s0, s1, s2, s3⟩ := sign_row (p := p) hrow hpl
 obtain rfl : y = x := Option.some.inj (hy.symm.trans HX.out)
 clear hbx hrow hy
 go_cut [7] from 46 to 55 (fun s7 wx => s7 = .pointer (some ⟨w2.heap.size, 0, none⟩) /\ wx.heap[w2.heap.size]? = some (.cells #[.int .i64 y.kind, .string y.text, .int .i64 y.num, .int .i64 y.at'] 92 (0, 0)) /\ Below w2.heap.size w2 wx)
 case first =>
  go_region_law (fail)
  all_goals
   go_wp2_with fail
   go_meet
   exact ⟨rfl, heap_at (by simp), bel⟩
 case rest =>
  obtain ⟨rfl, hXr, hBc⟩ := hcut
  have HXr := hid hXr
  have HBc := hid hBc
  have HRc := hid (HR2.out.below hBc)
  have HTc := hid ((hBc.block _ hl2).trans HT2.out)
  have hl3 := row_lt HTc.out
  have hl3x := row_lt hXr
  have hnx3 : ¬ w2.heap.size = b := by omega
  have hnxt : ¬ w2.heap.size = w.heap.size := by omega
  clear a0 a1 a2 a3 a4 a5 a6 af s0 s1 s2 s3 hXr hBc
  obtain ⟨A3, c3, hbx, -, -⟩ := HRc.out
  unfold rdC at hbx
  obtain ⟨a0, a1, a2, a3, a4, a5, a6, af⟩ := row7r hbx
  have l3 := row_lt hbx
  clear hbx
  go_upto_region 11 with fail
  obtain ⟨w3, hw3⟩ : ∃ W, W = wc.setCell ⟨b, 1, none⟩ (.int .i64 ((p : Int) + 1)) := ⟨_, rfl⟩
  have hA3 : Aside (fun q => q = b) wc w3 := by rw [hw3]; exact aside_set rfl (Aside.refl _ _)
  have hR3 : RdAtS L E b (p + 1) (m + 1) flt0 w3 := RdAtS.poke HRc.out hA3 (fun A c h => by rw [hw3]; unfold rdC at h ⊢; exact set7_1 h)
  rw [<- hw3]
  have HR3 := hid hR3
  have HT3 := hid ((hA3.block _ (row_lt HTc.out) hnb).trans HTc.out)
  have HX3 := hid ((hA3.block _ (row_lt HXr.out) hnx3).trans HXr.out)
  have HAw := hid (show Aside (fun q => q = b ∨ w.heap.size <= q) w w3 from (Aside.of_below HB1.out).trans ((HA2.out.mono (fun q h => .inl h)).trans ((Aside.of_below HBc.out).trans (hA3.mono (fun q h => .inl h)))))
  have hl4 := row_lt HT3.out
  have hl4x := row_lt HX3.out
  have hl4b := hR3.lt
  clear a0 a1 a2 a3 a4 a5 a6 af hR3 hA3 hw3
  obtain ⟨z0, z1, z2, z3, zf⟩ := row4 HX3.out
  obtain ⟨x0, x1, x2, x3, x4, x5, xf⟩ := row6 HT3.out
  go_wp2_with fail
  exact bodyPost_ret (v := .agg #[.int .i64 2, .bool false, .int .i64 0, .string ⟨#[]⟩, .slice none 0 0, .slice none 0 0]) (by simp only [results, Tryz.results76]; go_simp) rfl (ValE.good HR.out (GoodT.closeS (w3 := w3) ⟨[.int .i64 2, .bool false, .int .i64 0, .string ⟨#[]⟩, .slice none 0 0, .slice none 0 0], rfl, own_leaf (by unfold I64; decide) (by unfold I64; decide) (by decide), HR3.out, Aside.refl _ _⟩ HAw.out asd (by omega) hlb))
theorem c_vals_wide (L : List SignD) (E : Int) (b n d p m : Nat) (x : SignD) (w : World) (hL : SgOk L) (hx : L[p]? = some x) (hk : x.kind = 7) (hd8 : ¬ 8 < d) (hm3 : ¬ 300 <= m) (h : RdAtS L E b p m flt0 w) (hsz : 400 < x.text.size) :
  Calls Tryz.prog 76 #[.pointer (some ⟨b, 0, none⟩), .int .i64 d] w (ValE (RdAtS L E b) b L.length (10 - d) (readJ L E (n + 1) (.value d) p m) w) := by
 have HRd := hid h
 have hlb := h.lt
 have hlen := hL.len
 have hpl : p < L.length := (List.getElem?_eq_some_iff.1 hx).1
 have hz0 : (0 : Int) <= p := by omega
 have hz1 : (p : Int) < L.length := by omega
 have hnb : ¬ w.heap.size = b := by omega
 obtain ⟨r, hr⟩ : ∃ r, r = readJ L E (n + 1) (.value d) p m := ⟨_, rfl⟩
 obtain ⟨pl, hplc⟩ : ∃ pl, pl = placeAt L E p := ⟨_, rfl⟩
 obtain ⟨nd, hnd⟩ : ∃ k, 10 - d = k + 1 := ⟨9 - d, by omega⟩
 rw [<- hr, hnd]
 have hkk : kindAt L p = 7 := (kindAt_some hx).trans hk
 rw [readJ_go hx (by rw [hkk]; decide) hd8 hm3] at hr
 have HP := hid hplc
 have HK := hid hkk
 have HX := hid hx
 have HN := hid hnd
 have htx := hL.text p x hx
 have hnx := hL.num p x hx
 unfold I64 at hnx
 obtain ⟨hnx1, hnx2⟩ := hnx
 have d8 : decide ((8 : Int) < d) = false := decide_eq_false (by omega)
 have d300 : decide ((300 : Int) < (m : Int) + 1) = false := decide_eq_false (by omega)
 have hm9 : (m : Int) <= 300 := by omega
 rw [if_pos hk, if_pos hsz] at hr
 have HR := hid hr
 have dsz : decide ((400 : Int) < x.text.size) = true := decide_eq_true (by omega)
 clear hsz
 clear hr h hx hkk hk hnd hd8 hm3 hplc
 go_enter Tryz.func76, Tryz.ntmps76
 go_wp2_with fail
 refine (c_rs_next L E b p m flt0 _ (by omega) (HRd.out.below bel)).mono ?_
 rintro e w1 ⟨rfl, hb1⟩
 rw [HK.out, <- HP.out]
 have HB1 := hid (bel : Below w.heap.size w w1)
 have HT1 := hid ((hb1.block w.heap.size (by simp)).trans (heap_at (w := w) (o := .cells #[.int .i64 0, .bool false, .int .i64 0, .string ⟨#[]⟩, .slice none 0 0, .slice none 0 0] 34) rfl))
 have HR1 := hid (HRd.out.below HB1.out)
 have hl1 := row_lt HT1.out
 obtain ⟨q0, q1, q2, q3, q4, q5, q6, q7, q8, q9, q10, q11⟩ := hin_lit
 obtain ⟨A, c, hbx, -, -⟩ := HR1.out
 unfold rdC at hbx
 obtain ⟨a0, a1, a2, a3, a4, a5, a6, af⟩ := row7r hbx
 have l1 := row_lt hbx
 clear hbx hb1
 go_upto_region 9 with (go_at_call 115; refine (c_spec_l01In _ _ _ _).mono ?_; rintro e w9 ⟨rfl, rfl⟩)
 obtain ⟨w2, hw2⟩ : ∃ W, W = w1.setCell ⟨b, 3, none⟩ (.int .i64 ((m : Int) + 1)) := ⟨_, rfl⟩
 have hA2 : Aside (fun q => q = b) w1 w2 := by rw [hw2]; exact aside_set rfl (Aside.refl _ _)
 have hR2 : RdAtS L E b p (m + 1) flt0 w2 := RdAtS.poke HR1.out hA2 (fun A c h => by rw [hw2]; unfold rdC at h ⊢; exact set7_3 h)
 rw [<- hw2]
 have HR2 := hid hR2
 have HA2 := hid hA2
 have HT2 := hid ((hA2.block _ hl1 hnb).trans HT1.out)
 have hl2 := row_lt HT2.out
 clear a0 a1 a2 a3 a4 a5 a6 af hR2 hA2 hw2 q0 q1 q2 q3 q4 q5 q6 q7 q8 q9 q10 q11
 obtain ⟨A2, c2, hbx, hrow, -⟩ := HR2.out
 unfold rdC at hbx
 obtain ⟨a0, a1, a2, a3, a4, a5, a6, af⟩ := row7r hbx
 have l2 := row_lt hbx
 obtain ⟨g, y, rfl, hy, hlc, lg, s0, s1, s2, s3⟩ := sign_row (p := p) hrow hpl
 obtain rfl : y = x := Option.some.inj (hy.symm.trans HX.out)
 clear hbx hrow hy
 go_cut [7] from 46 to 55 (fun s7 wx => s7 = .pointer (some ⟨w2.heap.size, 0, none⟩) /\ wx.heap[w2.heap.size]? = some (.cells #[.int .i64 y.kind, .string y.text, .int .i64 y.num, .int .i64 y.at'] 92 (0, 0)) /\ Below w2.heap.size w2 wx)
 case first =>
  go_region_law (fail)
  all_goals
   go_wp2_with fail
   go_meet
   exact ⟨rfl, heap_at (by simp), bel⟩
 case rest =>
  obtain ⟨rfl, hXr, hBc⟩ := hcut
  have HXr := hid hXr
  have HBc := hid hBc
  have HRc := hid (HR2.out.below hBc)
  have HTc := hid ((hBc.block _ hl2).trans HT2.out)
  have hl3 := row_lt HTc.out
  have hl3x := row_lt hXr
  have hnx3 : ¬ w2.heap.size = b := by omega
  have hnxt : ¬ w2.heap.size = w.heap.size := by omega
  clear a0 a1 a2 a3 a4 a5 a6 af s0 s1 s2 s3 hXr hBc
  obtain ⟨A3, c3, hbx, -, -⟩ := HRc.out
  unfold rdC at hbx
  obtain ⟨a0, a1, a2, a3, a4, a5, a6, af⟩ := row7r hbx
  have l3 := row_lt hbx
  clear hbx
  go_upto_region 11 with fail
  obtain ⟨w3, hw3⟩ : ∃ W, W = wc.setCell ⟨b, 1, none⟩ (.int .i64 ((p : Int) + 1)) := ⟨_, rfl⟩
  have hA3 : Aside (fun q => q = b) wc w3 := by rw [hw3]; exact aside_set rfl (Aside.refl _ _)
  have hR3 : RdAtS L E b (p + 1) (m + 1) flt0 w3 := RdAtS.poke HRc.out hA3 (fun A c h => by rw [hw3]; unfold rdC at h ⊢; exact set7_1 h)
  rw [<- hw3]
  have HR3 := hid hR3
  have HT3 := hid ((hA3.block _ (row_lt HTc.out) hnb).trans HTc.out)
  have HX3 := hid ((hA3.block _ (row_lt HXr.out) hnx3).trans HXr.out)
  have HAw := hid (show Aside (fun q => q = b ∨ w.heap.size <= q) w w3 from (Aside.of_below HB1.out).trans ((HA2.out.mono (fun q h => .inl h)).trans ((Aside.of_below HBc.out).trans (hA3.mono (fun q h => .inl h)))))
  have hl4 := row_lt HT3.out
  have hl4x := row_lt HX3.out
  have hl4b := hR3.lt
  clear a0 a1 a2 a3 a4 a5 a6 af hR3 hA3 hw3
  obtain ⟨z0, z1, z2, z3, zf⟩ := row4 HX3.out
  obtain ⟨x0, x1, x2, x3, x4, x5, xf⟩ := row6 HT3.out
  go_wp2_with fail
  refine (c_rs_bad_new L E 8 pl b (p + 1) (m + 1) flt0 _ HR3.out rfl).mono ?_
  rintro e w9 ⟨rfl, hR9, hA9⟩
  have HR9 := hid (show RdAtS L E b (p + 1) (m + 1) (badF L E 8 p) w9 by unfold badF; rw [<- HP.out]; exact hR9)
  have HA9 := hid hA9
  have HT9 := hid ((hA9.block _ hl4 hnb).trans HT3.out)
  have hl9 := row_lt HT9.out
  clear x0 x1 x2 x3 x4 x5 xf z0 z1 z2 z3 zf hA9 hR9
  obtain ⟨x0, x1, x2, x3, x4, x5, xf⟩ := row6 HT9.out
  go_wp2_with fail
  exact bodyPost_ret (v := .agg #[.int .i64 0, .bool false, .int .i64 0, .string ⟨#[]⟩, .slice none 0 0, .slice none 0 0]) (by simp only [results, Tryz.results76]; go_simp) rfl (ValE.bad HR.out (BadT.closeS (w3 := w3) ⟨0, false, 0, ⟨#[]⟩, none, 0, 0, none, 0, 0, p + 1, m + 1, rfl, HR9.out, by omega, HA9.out⟩ HAw.out asd hlb))
theorem c_vals_list (L : List SignD) (E : Int) (b n d p m : Nat) (x : SignD) (w : World) (hL : SgOk L) (hx : L[p]? = some x) (hk : x.kind = 3) (hd8 : ¬ 8 < d) (hm3 : ¬ 300 <= m) (h : RdAtS L E b p m flt0 w) (hd1 : 1 <= d) (hn : needJ L p (.value d) <= n + 1) (hl : T_listS L E b n) :
  Calls Tryz.prog 76 #[.pointer (some ⟨b, 0, none⟩), .int .i64 d] w (ValE (RdAtS L E b) b L.length (10 - d) (readJ L E (n + 1) (.value d) p m) w) := by
 have HRd := hid h
 have hlb := h.lt
 have hlen := hL.len
 have hpl : p < L.length := (List.getElem?_eq_some_iff.1 hx).1
 have hz0 : (0 : Int) <= p := by omega
 have hz1 : (p : Int) < L.length := by omega
 have hnb : ¬ w.heap.size = b := by omega
 obtain ⟨r, hr⟩ : ∃ r, r = readJ L E (n + 1) (.value d) p m := ⟨_, rfl⟩
 obtain ⟨pl, hplc⟩ : ∃ pl, pl = placeAt L E p := ⟨_, rfl⟩
 obtain ⟨nd, hnd⟩ : ∃ k, 10 - d = k + 1 := ⟨9 - d, by omega⟩
 rw [<- hr, hnd]
 have hkk : kindAt L p = 3 := (kindAt_some hx).trans hk
 rw [readJ_go hx (by rw [hkk]; decide) hd8 hm3] at hr
 have HP := hid hplc
 have HK := hid hkk
 have HX := hid hx
 have HN := hid hnd
 have htx := hL.text p x hx
 have hnx := hL.num p x hx
 unfold I64 at hnx
 obtain ⟨hnx1, hnx2⟩ := hnx
 have d8 : decide ((8 : Int) < d) = false := decide_eq_false (by omega)
 have d300 : decide ((300 : Int) < (m : Int) + 1) = false := decide_eq_false (by omega)
 have hm9 : (m : Int) <= 300 := by omega
 rw [if_neg (by rw [hk]; decide), if_neg (by rw [hk]; decide), if_neg (by rw [hk]; decide), if_pos hk] at hr
 rw [<- hnd]
 have HR := hid hr
 have hdd : d <= 8 := by omega
 have hmm : m + 1 <= 300 := by omega
 have hpp : p + 1 <= L.length := by omega
 have HNe := hid (show needJ L (p + 1) (.list d []) <= n by unfold needJ at hn ⊢; simp only at hn ⊢; omega)
 have HL := hid hl
 clear hl hn
 clear hr h hx hkk hk hnd hd8 hm3 hplc
 go_enter Tryz.func76, Tryz.ntmps76
 go_wp2_with fail
 refine (c_rs_next L E b p m flt0 _ (by omega) (HRd.out.below bel)).mono ?_
 rintro e w1 ⟨rfl, hb1⟩
 rw [HK.out, <- HP.out]
 have HB1 := hid (bel : Below w.heap.size w w1)
 have HT1 := hid ((hb1.block w.heap.size (by simp)).trans (heap_at (w := w) (o := .cells #[.int .i64 0, .bool false, .int .i64 0, .string ⟨#[]⟩, .slice none 0 0, .slice none 0 0] 34) rfl))
 have HR1 := hid (HRd.out.below HB1.out)
 have hl1 := row_lt HT1.out
 obtain ⟨q0, q1, q2, q3, q4, q5, q6, q7, q8, q9, q10, q11⟩ := hin_lit
 obtain ⟨A, c, hbx, -, -⟩ := HR1.out
 unfold rdC at hbx
 obtain ⟨a0, a1, a2, a3, a4, a5, a6, af⟩ := row7r hbx
 have l1 := row_lt hbx
 clear hbx hb1
 go_upto_region 9 with (go_at_call 115; refine (c_spec_l01In _ _ _ _).mono ?_; rintro e w9 ⟨rfl, rfl⟩)
 obtain ⟨w2, hw2⟩ : ∃ W, W = w1.setCell ⟨b, 3, none⟩ (.int .i64 ((m : Int) + 1)) := ⟨_, rfl⟩
 have hA2 : Aside (fun q => q = b) w1 w2 := by rw [hw2]; exact aside_set rfl (Aside.refl _ _)
 have hR2 : RdAtS L E b p (m + 1) flt0 w2 := RdAtS.poke HR1.out hA2 (fun A c h => by rw [hw2]; unfold rdC at h ⊢; exact set7_3 h)
 rw [<- hw2]
 have HR2 := hid hR2
 have HA2 := hid hA2
 have HT2 := hid ((hA2.block _ hl1 hnb).trans HT1.out)
 have hl2 := row_lt HT2.out
 clear a0 a1 a2 a3 a4 a5 a6 af hR2 hA2 hw2 q0 q1 q2 q3 q4 q5 q6 q7 q8 q9 q10 q11
 obtain ⟨A2, c2, hbx, hrow, -⟩ := HR2.out
 unfold rdC at hbx
 obtain ⟨a0, a1, a2, a3, a4, a5, a6, af⟩ := row7r hbx
 have l2 := row_lt hbx
 obtain ⟨g, y, rfl, hy, hlc, lg, s0, s1, s2, s3⟩ := sign_row (p := p) hrow hpl
 obtain rfl : y = x := Option.some.inj (hy.symm.trans HX.out)
 clear hbx hrow hy
 go_cut [7] from 46 to 55 (fun s7 wx => s7 = .pointer (some ⟨w2.heap.size, 0, none⟩) /\ wx.heap[w2.heap.size]? = some (.cells #[.int .i64 y.kind, .string y.text, .int .i64 y.num, .int .i64 y.at'] 92 (0, 0)) /\ Below w2.heap.size w2 wx)
 case first =>
  go_region_law (fail)
  all_goals
   go_wp2_with fail
   go_meet
   exact ⟨rfl, heap_at (by simp), bel⟩
 case rest =>
  obtain ⟨rfl, hXr, hBc⟩ := hcut
  have HXr := hid hXr
  have HBc := hid hBc
  have HRc := hid (HR2.out.below hBc)
  have HTc := hid ((hBc.block _ hl2).trans HT2.out)
  have hl3 := row_lt HTc.out
  have hl3x := row_lt hXr
  have hnx3 : ¬ w2.heap.size = b := by omega
  have hnxt : ¬ w2.heap.size = w.heap.size := by omega
  clear a0 a1 a2 a3 a4 a5 a6 af s0 s1 s2 s3 hXr hBc
  obtain ⟨A3, c3, hbx, -, -⟩ := HRc.out
  unfold rdC at hbx
  obtain ⟨a0, a1, a2, a3, a4, a5, a6, af⟩ := row7r hbx
  have l3 := row_lt hbx
  clear hbx
  go_upto_region 11 with fail
  obtain ⟨w3, hw3⟩ : ∃ W, W = wc.setCell ⟨b, 1, none⟩ (.int .i64 ((p : Int) + 1)) := ⟨_, rfl⟩
  have hA3 : Aside (fun q => q = b) wc w3 := by rw [hw3]; exact aside_set rfl (Aside.refl _ _)
  have hR3 : RdAtS L E b (p + 1) (m + 1) flt0 w3 := RdAtS.poke HRc.out hA3 (fun A c h => by rw [hw3]; unfold rdC at h ⊢; exact set7_1 h)
  rw [<- hw3]
  have HR3 := hid hR3
  have HT3 := hid ((hA3.block _ (row_lt HTc.out) hnb).trans HTc.out)
  have HX3 := hid ((hA3.block _ (row_lt HXr.out) hnx3).trans HXr.out)
  have HAw := hid (show Aside (fun q => q = b ∨ w.heap.size <= q) w w3 from (Aside.of_below HB1.out).trans ((HA2.out.mono (fun q h => .inl h)).trans ((Aside.of_below HBc.out).trans (hA3.mono (fun q h => .inl h)))))
  have hl4 := row_lt HT3.out
  have hl4x := row_lt HX3.out
  have hl4b := hR3.lt
  clear a0 a1 a2 a3 a4 a5 a6 af hR3 hA3 hw3
  obtain ⟨z0, z1, z2, z3, zf⟩ := row4 HX3.out
  obtain ⟨x0, x1, x2, x3, x4, x5, xf⟩ := row6 HT3.out
  go_wp2_with fail
  refine (HL.out d (p + 1) (m + 1) _ hd1 hdd hpp hmm HNe.out HR3.out).mono ?_
  intro e w5 hv
  rcases hq : listR L E n d (p + 1) (m + 1) with f | ⟨t', q, m'⟩
  ·have HQ := hid (HR.out.trans hq)
   have hv' := ValE.isBad hq hv
   have HV := hid hv'
   obtain ⟨k5, f5, n5, t5, A45, n45, c45, A55, n55, c55, p5, m5, rfl, hR5, hp5, hA5⟩ := hv'
   have HT5 := hid ((hA5.block _ hl4 hnb).trans HT3.out)
   have hl5 := row_lt HT5.out
   clear x0 x1 x2 x3 x4 x5 xf z0 z1 z2 z3 zf hv hq hR5 hA5
   obtain ⟨x0, x1, x2, x3, x4, x5, xf⟩ := row6 HT5.out
   go_wp2_with fail
   exact bodyPost_ret (v := .agg #[.int .i64 k5, .bool f5, .int .i64 n5, .string t5, .slice A45 n45 c45, .slice A55 n55 c55]) (by simp only [results, Tryz.results76]; go_simp) rfl (ValE.bad HQ.out (BadT.closeS HV.out HAw.out asd hlb))
  ·have HQ := hid (HR.out.trans hq)
   have hv' := ValE.isGood hq hv
   have HV := hid hv'
   obtain ⟨cs, rfl, hO5, hR5, hA5⟩ := hv'
   obtain ⟨A4, c4, A5, c5, rfl, -⟩ := hO5.flat
   have HT5 := hid ((hA5.block _ hl4 hnb).trans HT3.out)
   have hl5 := row_lt HT5.out
   clear x0 x1 x2 x3 x4 x5 xf z0 z1 z2 z3 zf hv hq hR5 hA5 hO5
   obtain ⟨x0, x1, x2, x3, x4, x5, xf⟩ := row6 HT5.out
   go_wp2_with fail
   exact bodyPost_ret (v := .agg #[.int .i64 t'.kind, .bool t'.flag, .int .i64 t'.num, .string t'.text, .slice A4 t'.keys.length c4, .slice A5 t'.kids.length c5]) (by simp only [results, Tryz.results76]; go_simp) rfl (ValE.good HQ.out (GoodT.closeS HV.out HAw.out asd (by omega) hlb))
theorem c_vals_pairs (L : List SignD) (E : Int) (b n d p m : Nat) (x : SignD) (w : World) (hL : SgOk L) (hx : L[p]? = some x) (hk : x.kind = 1) (hd8 : ¬ 8 < d) (hm3 : ¬ 300 <= m) (h : RdAtS L E b p m flt0 w) (hd1 : 1 <= d) (hn : needJ L p (.value d) <= n + 1) (hl : T_pairsS L E b n) :
  Calls Tryz.prog 76 #[.pointer (some ⟨b, 0, none⟩), .int .i64 d] w (ValE (RdAtS L E b) b L.length (10 - d) (readJ L E (n + 1) (.value d) p m) w) := by
 have HRd := hid h
 have hlb := h.lt
 have hlen := hL.len
 have hpl : p < L.length := (List.getElem?_eq_some_iff.1 hx).1
 have hz0 : (0 : Int) <= p := by omega
 have hz1 : (p : Int) < L.length := by omega
 have hnb : ¬ w.heap.size = b := by omega
 obtain ⟨r, hr⟩ : ∃ r, r = readJ L E (n + 1) (.value d) p m := ⟨_, rfl⟩
 obtain ⟨pl, hplc⟩ : ∃ pl, pl = placeAt L E p := ⟨_, rfl⟩
 obtain ⟨nd, hnd⟩ : ∃ k, 10 - d = k + 1 := ⟨9 - d, by omega⟩
 rw [<- hr, hnd]
 have hkk : kindAt L p = 1 := (kindAt_some hx).trans hk
 rw [readJ_go hx (by rw [hkk]; decide) hd8 hm3] at hr
 have HP := hid hplc
 have HK := hid hkk
 have HX := hid hx
 have HN := hid hnd
 have htx := hL.text p x hx
 have hnx := hL.num p x hx
 unfold I64 at hnx
 obtain ⟨hnx1, hnx2⟩ := hnx
 have d8 : decide ((8 : Int) < d) = false := decide_eq_false (by omega)
 have d300 : decide ((300 : Int) < (m : Int) + 1) = false := decide_eq_false (by omega)
 have hm9 : (m : Int) <= 300 := by omega
 rw [if_neg (by rw [hk]; decide), if_neg (by rw [hk]; decide), if_neg (by rw [hk]; decide), if_neg (by rw [hk]; decide), if_pos hk] at hr
 rw [<- hnd]
 have HR := hid hr
 have hdd : d <= 8 := by omega
 have hmm : m + 1 <= 300 := by omega
 have hpp : p + 1 <= L.length := by omega
 have HNe := hid (show needJ L (p + 1) (.pairs d [] []) <= n by unfold needJ at hn ⊢; simp only at hn ⊢; omega)
 have HL := hid hl
 clear hl hn
 clear hr h hx hkk hk hnd hd8 hm3 hplc
 go_enter Tryz.func76, Tryz.ntmps76
 go_wp2_with fail
 refine (c_rs_next L E b p m flt0 _ (by omega) (HRd.out.below bel)).mono ?_
 rintro e w1 ⟨rfl, hb1⟩
 rw [HK.out, <- HP.out]
 have HB1 := hid (bel : Below w.heap.size w w1)
 have HT1 := hid ((hb1.block w.heap.size (by simp)).trans (heap_at (w := w) (o := .cells #[.int .i64 0, .bool false, .int .i64 0, .string ⟨#[]⟩, .slice none 0 0, .slice none 0 0] 34) rfl))
 have HR1 := hid (HRd.out.below HB1.out)
 have hl1 := row_lt HT1.out
 obtain ⟨q0, q1, q2, q3, q4, q5, q6, q7, q8, q9, q10, q11⟩ := hin_lit
 obtain ⟨A, c, hbx, -, -⟩ := HR1.out
 unfold rdC at hbx
 obtain ⟨a0, a1, a2, a3, a4, a5, a6, af⟩ := row7r hbx
 have l1 := row_lt hbx
 clear hbx hb1
 go_upto_region 9 with (go_at_call 115; refine (c_spec_l01In _ _ _ _).mono ?_; rintro e w9 ⟨rfl, rfl⟩)
 obtain ⟨w2, hw2⟩ : ∃ W, W = w1.setCell ⟨b, 3, none⟩ (.int .i64 ((m : Int) + 1)) := ⟨_, rfl⟩
 have hA2 : Aside (fun q => q = b) w1 w2 := by rw [hw2]; exact aside_set rfl (Aside.refl _ _)
 have hR2 : RdAtS L E b p (m + 1) flt0 w2 := RdAtS.poke HR1.out hA2 (fun A c h => by rw [hw2]; unfold rdC at h ⊢; exact set7_3 h)
 rw [<- hw2]
 have HR2 := hid hR2
 have HA2 := hid hA2
 have HT2 := hid ((hA2.block _ hl1 hnb).trans HT1.out)
 have hl2 := row_lt HT2.out
 clear a0 a1 a2 a3 a4 a5 a6 af hR2 hA2 hw2 q0 q1 q2 q3 q4 q5 q6 q7 q8 q9 q10 q11
 obtain ⟨A2, c2, hbx, hrow, -⟩ := HR2.out
 unfold rdC at hbx
 obtain ⟨a0, a1, a2, a3, a4, a5, a6, af⟩ := row7r hbx
 have l2 := row_lt hbx
 obtain ⟨g, y, rfl, hy, hlc, lg, s0, s1, s2, s3⟩ := sign_row (p := p) hrow hpl
 obtain rfl : y = x := Option.some.inj (hy.symm.trans HX.out)
 clear hbx hrow hy
 go_cut [7] from 46 to 55 (fun s7 wx => s7 = .pointer (some ⟨w2.heap.size, 0, none⟩) /\ wx.heap[w2.heap.size]? = some (.cells #[.int .i64 y.kind, .string y.text, .int .i64 y.num, .int .i64 y.at'] 92 (0, 0)) /\ Below w2.heap.size w2 wx)
 case first =>
  go_region_law (fail)
  all_goals
   go_wp2_with fail
   go_meet
   exact ⟨rfl, heap_at (by simp), bel⟩
 case rest =>
  obtain ⟨rfl, hXr, hBc⟩ := hcut
  have HXr := hid hXr
  have HBc := hid hBc
  have HRc := hid (HR2.out.below hBc)
  have HTc := hid ((hBc.block _ hl2).trans HT2.out)
  have hl3 := row_lt HTc.out
  have hl3x := row_lt hXr
  have hnx3 : ¬ w2.heap.size = b := by omega
  have hnxt : ¬ w2.heap.size = w.heap.size := by omega
  clear a0 a1 a2 a3 a4 a5 a6 af s0 s1 s2 s3 hXr hBc
  obtain ⟨A3, c3, hbx, -, -⟩ := HRc.out
  unfold rdC at hbx
  obtain ⟨a0, a1, a2, a3, a4, a5, a6, af⟩ := row7r hbx
  have l3 := row_lt hbx
  clear hbx
  go_upto_region 11 with fail
  obtain ⟨w3, hw3⟩ : ∃ W, W = wc.setCell ⟨b, 1, none⟩ (.int .i64 ((p : Int) + 1)) := ⟨_, rfl⟩
  have hA3 : Aside (fun q => q = b) wc w3 := by rw [hw3]; exact aside_set rfl (Aside.refl _ _)
  have hR3 : RdAtS L E b (p + 1) (m + 1) flt0 w3 := RdAtS.poke HRc.out hA3 (fun A c h => by rw [hw3]; unfold rdC at h ⊢; exact set7_1 h)
  rw [<- hw3]
  have HR3 := hid hR3
  have HT3 := hid ((hA3.block _ (row_lt HTc.out) hnb).trans HTc.out)
  have HX3 := hid ((hA3.block _ (row_lt HXr.out) hnx3).trans HXr.out)
  have HAw := hid (show Aside (fun q => q = b ∨ w.heap.size <= q) w w3 from (Aside.of_below HB1.out).trans ((HA2.out.mono (fun q h => .inl h)).trans ((Aside.of_below HBc.out).trans (hA3.mono (fun q h => .inl h)))))
  have hl4 := row_lt HT3.out
  have hl4x := row_lt HX3.out
  have hl4b := hR3.lt
  clear a0 a1 a2 a3 a4 a5 a6 af hR3 hA3 hw3
  obtain ⟨z0, z1, z2, z3, zf⟩ := row4 HX3.out
  obtain ⟨x0, x1, x2, x3, x4, x5, xf⟩ := row6 HT3.out
  go_wp2_with fail
  refine (HL.out d (p + 1) (m + 1) _ hd1 hdd hpp hmm HNe.out HR3.out).mono ?_
  intro e w5 hv
  rcases hq : pairsR L E n d (p + 1) (m + 1) with f | ⟨t', q, m'⟩
  ·have HQ := hid (HR.out.trans hq)
   have hv' := ValE.isBad hq hv
   have HV := hid hv'
   obtain ⟨k5, f5, n5, t5, A45, n45, c45, A55, n55, c55, p5, m5, rfl, hR5, hp5, hA5⟩ := hv'
   have HT5 := hid ((hA5.block _ hl4 hnb).trans HT3.out)
   have hl5 := row_lt HT5.out
   clear x0 x1 x2 x3 x4 x5 xf z0 z1 z2 z3 zf hv hq hR5 hA5
   obtain ⟨x0, x1, x2, x3, x4, x5, xf⟩ := row6 HT5.out
   go_wp2_with fail
   exact bodyPost_ret (v := .agg #[.int .i64 k5, .bool f5, .int .i64 n5, .string t5, .slice A45 n45 c45, .slice A55 n55 c55]) (by simp only [results, Tryz.results76]; go_simp) rfl (ValE.bad HQ.out (BadT.closeS HV.out HAw.out asd hlb))
  ·have HQ := hid (HR.out.trans hq)
   have hv' := ValE.isGood hq hv
   have HV := hid hv'
   obtain ⟨cs, rfl, hO5, hR5, hA5⟩ := hv'
   obtain ⟨A4, c4, A5, c5, rfl, -⟩ := hO5.flat
   have HT5 := hid ((hA5.block _ hl4 hnb).trans HT3.out)
   have hl5 := row_lt HT5.out
   clear x0 x1 x2 x3 x4 x5 xf z0 z1 z2 z3 zf hv hq hR5 hA5 hO5
   obtain ⟨x0, x1, x2, x3, x4, x5, xf⟩ := row6 HT5.out
   go_wp2_with fail
   exact bodyPost_ret (v := .agg #[.int .i64 t'.kind, .bool t'.flag, .int .i64 t'.num, .string t'.text, .slice A4 t'.keys.length c4, .slice A5 t'.kids.length c5]) (by simp only [results, Tryz.results76]; go_simp) rfl (ValE.good HQ.out (GoodT.closeS HV.out HAw.out asd (by omega) hlb))
theorem of_valS (L : List SignD) (E : Int) (b n : Nat) (hL : SgOk L) (hl : T_listS L E b n) (hp : T_pairsS L E b n) : T_valS L E b (n + 1) := by
 intro d p m w hd1 hd9 hpl hm hn h
 by_cases hk : kindAt L p = 1 ∨ kindAt L p = 3 ∨ 7 <= kindAt L p
 ·by_cases h8 : 8 < d
  ·exact c_vals_deep L E b n d p m w hL hpl h hk h8
  ·by_cases h3 : 300 <= m
   ·exact c_vals_many L E b n d p m w hL hpl h hm hk h8 h3
   ·rcases hx : L[p]? with _ | x
    ·rw [kindAt_none hx] at hk
     omega
    ·have hkx := kindAt_some hx
     have hb := hL.kind p x hx
     rw [hkx] at hk
     rcases (show x.kind = 1 ∨ x.kind = 3 ∨ x.kind = 7 ∨ x.kind = 8 ∨ x.kind = 9 ∨ x.kind = 10 ∨ x.kind = 11 by omega) with e | e | e | e | e | e | e
     ·exact c_vals_pairs L E b n d p m x w hL hx e h8 h3 h hd1 hn hp
     ·exact c_vals_list L E b n d p m x w hL hx e h8 h3 h hd1 hn hl
     ·by_cases hs : 400 < x.text.size
      ·exact c_vals_wide L E b n d p m x w hL hx e h8 h3 h hs
      ·exact c_vals_text L E b n d p m x w hL hx e h8 h3 h hs
     ·exact c_vals_num L E b n d p m x w hL hx e h8 h3 h
     ·exact c_vals_true L E b n d p m x w hL hx e h8 h3 h
     ·exact c_vals_false L E b n d p m x w hL hx e h8 h3 h
     ·exact c_vals_null L E b n d p m x w hL hx e h8 h3 h
 ·exact c_vals_form L E b n d p m w hL hpl h hk
theorem RdAtS.meas {L : List SignD} {E : Int} {b p m : Nat} {f : Flt} {w : World} (h : RdAtS L E b p m f w) (N : Nat) : rdM N b w = if f.code = 0 then N + 1 - p else 0 := by
 obtain ⟨A, c, h1, -, -⟩ := h
 unfold rdC at h1
 obtain ⟨a0, a1, a2, a3, a4, a5, a6, af⟩ := row7r h1
 unfold rdM
 rw [a4, a1]
 simp
theorem GoodK.finS {L : List SignD} {E : Int} {b nT : Nat} {w wx wF : World} {acc : List TreeD} {q m : Nat} {A : Option Addr} {c : Nat} (hb : b < w.heap.size) (hL : LBox b w wx (.slice A acc.length c)) (hG : GrowK nT (w.heap.size + 2) wx.heap.size wx acc (.slice A acc.length c)) (hR : RdAtS L E b q m flt0 wx) (hF : Aside (fun q => q = w.heap.size) wx wF) :
  GoodT (RdAtS L E b) b (nT + 1) (tList acc) q m w (.returned (.agg #[.int .i64 5, .bool false, .int .i64 0, .string ⟨#[]⟩, .slice none 0 0, .slice A acc.length c])) wF := by
 refine ⟨[.int .i64 5, .bool false, .int .i64 0, .string ⟨#[]⟩, .slice none 0 0, .slice A acc.length c], rfl, own_listT hG (fun q h1 h2 => hF.block q h2 (by omega)) (fun b h1 h2 => ⟨by omega, Nat.lt_of_lt_of_le h2 hF.size⟩), hR.past hF (fun q hq => by omega), ?_⟩
 exact Aside.low (hL.aside.join hF (fun q hq _ => .inr (by omega)))
theorem BadK.finS {L : List SignD} {E : Int} {b N : Nat} {w wx wF : World} {f : Flt} {A : Option Addr} {n c p m : Nat} (hb : b < w.heap.size) (hL : LBox b w wx (.slice A n c)) (hR : RdAtS L E b p m f wx) (hp : p <= N) (hF : Aside (fun q => q = w.heap.size) wx wF) :
  BadT (RdAtS L E b) b N f w (.returned (.agg #[.int .i64 5, .bool false, .int .i64 0, .string ⟨#[]⟩, .slice none 0 0, .slice A n c])) wF :=
 ⟨5, false, 0, ⟨#[]⟩, none, 0, 0, A, n, c, p, m, rfl, hR.past hF (fun q hq => by omega), hp, Aside.low (hL.aside.join hF (fun q hq _ => .inr (by omega)))⟩
theorem of_listS (L : List SignD) (E : Int) (b n : Nat) (hL : SgOk L) (hv : ∀ k, k < n -> T_valS L E b k) : T_listS L E b n := by
 intro d p0 m0 w hd1 hd8 hpl hm hn h
 obtain ⟨i0, hi, hz0, hz1, hz2⟩ := info_parts (show (Tryz.prog.info? 34).map (fun i => (i.zero, i.size, i.bytes)) = some (some (.agg #[.int .i64 0, .bool false, .int .i64 0, .string ⟨#[]⟩, .slice none 0 0, .slice none 0 0]), 6, 88) from by kernel_rfl)
 have HRd := hid h
 have Hv := hid hv
 have hlb := h.lt
 have hlen := hL.len
 have HLs := hid hL
 obtain ⟨nd, hnd⟩ : ∃ k, 10 - d = k + 1 := ⟨9 - d, by omega⟩
 have hnd9 : 9 - d = nd := by omega
 obtain ⟨r, hr⟩ : ∃ r, r = listR L E n d p0 m0 := ⟨_, rfl⟩
 rw [<- hr, hnd]
 have HR := hid hr
 have HN9 := hid hnd9
 have HNe := hid hn
 obtain ⟨t0, ht0⟩ : ∃ t, t = kindAt L p0 := ⟨_, rfl⟩
 have HT0 := hid ht0
 clear hr h hv hnd hnd9 hn hL
 by_cases hk4 : kindAt L p0 = 4
 ·have HQ := hid (show r = .good (tList []) (p0 + 1) m0 by rw [HR.out]; exact if_pos hk4)
  obtain rfl : t0 = 4 := ht0.trans hk4
  clear hk4 ht0
  go_enter Tryz.func141, Tryz.ntmps141
  go_wp2_with fail
  refine (c_rs_next L E b p0 m0 flt0 _ (by omega) (HRd.out.below bel)).mono ?_
  rintro e w1 ⟨rfl, hb1⟩
  rw [<- HT0.out]
  have hR1 : RdAtS L E b p0 m0 flt0 w1 := HRd.out.below bel
  have hL1 : LBox b w w1 (.slice none 0 0) := ⟨(hb1.block _ (by simp; omega)).trans ((Below.heap_alloc _ _ _ (by simp)).trans (heap_at (by simp))), (hb1.block _ (by simp)).trans (heap_at (by simp)), Aside.of_below bel⟩
  have HL1 := hid hL1
  have HR1 := hid hR1
  obtain ⟨A, c, hbx, -, -⟩ := hR1
  unfold rdC at hbx
  obtain ⟨a0, a1, a2, a3, a4, a5, a6, af⟩ := row7r hbx
  have lb := row_lt hbx
  clear hL1 hb1 hbx
  go_upto_region 5 with fail
  obtain ⟨w2, hw2⟩ : ∃ W, W = w1.setCell ⟨b, 1, none⟩ (.int .i64 ((p0 : Int) + 1)) := ⟨_, rfl⟩
  have hA2 : Aside (fun q => q = b) w1 w2 := by rw [hw2]; exact aside_set rfl (Aside.refl _ _)
  have hR2 : RdAtS L E b (p0 + 1) m0 flt0 w2 := RdAtS.poke HR1.out hA2 (fun A c h => by rw [hw2]; unfold rdC at h ⊢; exact set7_1 h)
  rw [<- hw2]
  have HR2 := hid hR2
  have HL2 := hid (HL1.out.same hA2 (fun q hq => .inl hq) hlb)
  clear a0 a1 a2 a3 a4 a5 a6 af hw2 hA2 hR2
  obtain ⟨x0, x1, x2, x3, x4, x5, xf⟩ := row6 HL2.out.zero
  obtain ⟨y0, y1, y2, y3, y4, y5, yf⟩ := row6 HL2.out.list
  have l0 := row_lt HL2.out.zero
  have l1 := row_lt HL2.out.list
  go_wp2_with fail
  exact bodyPost_ret (v := .agg #[.int .i64 5, .bool false, .int .i64 0, .string ⟨#[]⟩, .slice none 0 0, .slice none 0 0]) (by simp only [results, Tryz.results141]; go_simp) rfl (ValE.good HQ.out (GoodK.finS (acc := []) hlb HL2.out (GrowK.nil _ _ _ _) HR2.out asd))
 ·have HQ := hid (show r = readJ L E n (.list d []) p0 m0 by rw [HR.out]; exact if_neg hk4)
  have dt0 : (t0 == 4) = false := beq_eq_false_iff_ne.2 (fun h => hk4 (ht0.symm.trans h))
  clear hk4 ht0
  go_enter Tryz.func141, Tryz.ntmps141
  go_wp2_with fail
  refine (c_rs_next L E b p0 m0 flt0 _ (by omega) (HRd.out.below bel)).mono ?_
  rintro e w1 ⟨rfl, hb1⟩
  rw [<- HT0.out]
  have hR1 : RdAtS L E b p0 m0 flt0 w1 := HRd.out.below bel
  have hL1 : LBox b w w1 (.slice none 0 0) := ⟨(hb1.block _ (by simp; omega)).trans ((Below.heap_alloc _ _ _ (by simp)).trans (heap_at (by simp))), (hb1.block _ (by simp)).trans (heap_at (by simp)), Aside.of_below bel⟩
  have hG1 : GoodK (RdAtS L E b) b (9 - d) w [] p0 m0 w1 := ⟨_, hL1, GrowK.nil _ _ _ _, hR1⟩
  have HG1 := hid hG1
  clear hR1 hL1 hG1 hb1
  go_wp2_with fail
  go_loopw [6] (fun s6 wr => (∃ z : Int, s6 = .int .i64 z) /\ ListAt L E (RdAtS L E b) b n d r w wr) (fun _ wr => rdM L.length b wr)
  case atStart => exact ⟨⟨_, rfl⟩, .inl ⟨[], p0, m0, n, HG1.out, hpl, hm, by simp, HNe.out, Nat.le_refl _, HQ.out⟩⟩
  case round =>
   obtain ⟨⟨z6, rfl⟩, hrel⟩ := hrel
   have HRel := hid hrel
   clear hrel HG1
   rcases HRel.out with ⟨acc, p, m, k, hG, hp, hm3, hac, hne, hkn, hrr⟩ | ⟨f, hB, hf, hrr⟩
   ·clear HRel
    obtain ⟨v, hLb, hgk, hRr⟩ := hG
    obtain ⟨VA, vc, rfl⟩ := hgk.form
    have HRr := hid hRr
    have HLb := hid hLb
    have Hgk := hid hgk
    have HJ := hid hrr
    obtain ⟨k1, hk1⟩ : ∃ k1, k = k1 + 1 := by cases k with | zero => simp [needJ] at hne | succ k1 => exact ⟨k1, rfl⟩
    obtain ⟨dd, hdd⟩ : ∃ dd, dd = d + 1 := ⟨_, rfl⟩
    have hwd : IntKind.i64.wrap ((d : Int) + 1) = (dd : Int) := by rw [IntKind.wrap_i64]; omega
    have hdd1 : 1 <= dd := by omega
    have hdd9 : dd <= 9 := by omega
    have hne2 : needJ L p (.value dd) <= k1 := by subst hk1; unfold needJ at hne ⊢; simp only at hne ⊢; omega
    have hk1n : k1 < n := by omega
    have HJ2 := hid (show r = _ from by rw [HJ.out, hk1, readJ_list, <- hdd])
    have hgood := readJ_good L E k1 (.value dd) p m hp hm3 hne2
    have HDD := hid hdd
    clear hdd
    have HNe2 := hid hne2
    have HNl := hid hne
    obtain ⟨A, c, hbx, -, -⟩ := hRr
    unfold rdC at hbx
    obtain ⟨a0, a1, a2, a3, a4, a5, a6, af⟩ := row7r hbx
    have lb := row_lt hbx
    have a4' : wr.cell? ⟨b, 4, none⟩ = some (.int .i64 0) := a4
    obtain ⟨y0, y1, y2, y3, y4, y5, yf⟩ := row6 hLb.list
    have ly := row_lt hLb.list
    have lz := row_lt hLb.zero
    obtain ⟨ess, F, e1, e2, e3, e4, e5, e6, e7⟩ := Hgk.out
    have HO := hid e3
    obtain ⟨rb, hrb⟩ : ∃ rb, rb = (Value.slice VA acc.length vc).ownBlock := ⟨_, rfl⟩
    have hrl : ∀ q, rb = some q -> w.heap.size + 2 <= q /\ q < wr.heap.size := fun q hq => ⟨(HO.out.lt q (by rw [<- hrb]; exact hq)).1, e4 q (by rw [<- hrb]; exact hq)⟩
    have hn0 : rb ≠ some w.heap.size := fun h => by have := (hrl _ h).1; omega
    have hn1 : rb ≠ some (w.heap.size + 1) := fun h => by have := (hrl _ h).1; omega
    have hnb : rb ≠ some b := fun h => by have := (hrl _ h).1; omega
    have Hrl := hid hrl
    have Hr := hid hrb
    have HE := hid (And.intro e1 (And.intro e2 (And.intro e4 (And.intro e5 (And.intro e6 e7)))))
    have hb0 : ¬ w.heap.size = b := by omega
    have hb1 : ¬ w.heap.size + 1 = b := by omega
    clear hLb hgk hrr hk1 hne hne2 hbx a4 e1 e2 e3 e4 e5 e6 e7 hrl hrb hkn
    rcases hq : readJ L E k1 (.value dd) p m with f | ⟨t, q, m'⟩
    ·have hf0 : f.code ≠ 0 := by rw [hq] at hgood; exact hgood
     have HQv := hid hq
     have HJ3 := hid (show r = .bad f by rw [HJ2.out, hq])
     clear hq hgood HJ2
     go_upto_region 7 with fail
     go_cut [] from 30 to 38 (fun wx => BadK (RdAtS L E b) b L.length w f wx)
     case first =>
      go_region_law (first | (go_simp; go_at_call 76; refine (Hv.out k1 hk1n dd p m _ hdd1 hdd9 hp hm3 HNe2.out (HRr.out.below bel)).mono ?_; intro e9 w9 hv9; obtain ⟨u0, u1, u2, u3, U4, u4, u44, U5, u5, u55, p9, m9, rfl, hR9, hp9, hA9⟩ := ValE.isBad HQv.out hv9; obtain ⟨-, -, -, -, -, p5, -⟩ := row6 ((hA9.block (w.heap.size + 1) ly hb1).trans HLb.out.list); have l9 : w.heap.size + 1 < w9.heap.size := Nat.lt_of_lt_of_le ly hA9.size; have Hone := hid (show ∀ z ∈ [Value.int .i64 u0, .bool u1, .int .i64 u2, .string u3, .slice U4 u4 u44, .slice U5 u5 u55], z.oneCell' = true by intro z hz; simp at hz; rcases hz with rfl | rfl | rfl | rfl | rfl | rfl <;> rfl)) | (refine step_append_lies _ rfl _ _ 32 rfl (w.heap.size + 2) 34 i0 (.agg #[.int .i64 0, .bool false, .int .i64 0, .string ⟨#[]⟩, .slice none 0 0, .slice none 0 0]) 6 88 Tryz.underlying32 hi hz0 hz1 hz2 rfl (by decide) _ acc.length ess.flatten rfl (own9a HO.out hA9 rfl (by omega) rfl) ⟨w9.heap.size, 0, none⟩ 1 1 [.int .i64 u0, .bool u1, .int .i64 u2, .string u3, .slice U4 u4 u44, .slice U5 u5 u55] rfl rfl (World.news_of_block (heap_alloc_new w9 _)) Hone.out (by decide) (by unfold maxLen; omega) (by omega) (by have := hA9.size; simp at this ⊢; omega) _ rfl ?_; intro g cap w2 hown2 hgrow2 hat2 hlt2; obtain ⟨-, -, -, -, -, q5, qf⟩ := row6 ((blk9a ly hA9 rfl hgrow2 Hr.out hn1 (by omega)).trans HLb.out.list)))
      all_goals
       have RT2 := (blk9a ly hA9 rfl hgrow2 Hr.out hn1 (by omega)).trans HLb.out.list
       have RZ2 := (blk9a lz hA9 rfl hgrow2 Hr.out hn0 (by omega)).trans HLb.out.zero
       have hgA : Aside (fun q => some q = rb) w9 w2 := Aside.trans (aside_alloc (Aside.refl _ _)) ⟨hgrow2.os, hgrow2.tape, hgrow2.output, hgrow2.size, fun q h1 h2 => hgrow2.block q h1 (fun h => h2 (h.trans Hr.out.symm))⟩
       have hF2 : Aside (fun q => q = b ∨ w.heap.size <= q) w w2 := (HLb.out.aside.join (Aside.trans (Aside.of_below (bel : Below wr.heap.size wr _)) hA9) (fun q hq _ => .inl hq)).join hgA (fun q hq _ => .inr (by have := (Hrl.out q hq.symm).1; omega))
       have hR2 := hR9.past hgA (fun q hq => by have := (Hrl.out q hq.symm).1; omega)
       have hl2 := row_lt RT2
       go_wp2_with fail
       go_meet
       exact ⟨some ⟨g, 0, none⟩, acc.length + 1, cap, p9, m9, ⟨(Below.heap_setCell _ _ _ _ (by simp)).trans RZ2, heap_setCell_same w2 (w.heap.size + 1) 5 _ _ _ RT2, aside_set (.inr (by simp)) hF2⟩, hR2.past (S := fun q => q = w.heap.size + 1) (aside_set rfl (Aside.refl _ _)) (fun q hq => by omega), hp9⟩
     case rest =>
      obtain ⟨A5, n5, c5, p5, m5, hL5, hR5, hp5⟩ := hcut
      have HL5 := hid hL5
      have HR5 := hid hR5
      obtain ⟨t5, ht5⟩ : ∃ t, t = kindAt L p5 := ⟨_, rfl⟩
      have HT5 := hid ht5
      clear hL5 hR5 ht5 a0 a1 a2 a3 a4' a5 a6 af y0 y1 y2 y3 y4 y5 yf
      go_wp2_with fail
      refine (c_rs_next L E b p5 m5 f _ (by omega) HR5.out).mono ?_
      rintro e w6 ⟨rfl, hb6⟩
      rw [<- HT5.out]
      have HR6 := hid (HR5.out.below hb6)
      have HL6 := hid (HL5.out.same (Aside.of_below (S := fun q => q = b) hb6) (fun q hq => .inl hq) hlb)
      obtain ⟨fz, hfz⟩ : ∃ z, z = f.code := ⟨_, rfl⟩
      have hf1 := hf0
      rw [<- hfz] at hf1
      have dz : (fz == 0) = false := beq_eq_false_iff_ne.2 hf1
      obtain ⟨A, c, hbx, -, -⟩ := HR6.out
      unfold rdC at hbx
      obtain ⟨a0, a1, a2, a3, a4, a5, a6, af⟩ := row7r hbx
      have lb6 := row_lt hbx
      rw [<- hfz] at a4
      clear hb6 hbx hfz hf1
      by_cases hk6 : t5 = 6
      ·subst hk6
       go_wp2_with fail
       go_roundw
       case rel => exact ⟨⟨_, rfl⟩, .inr ⟨f, ⟨A5, n5, c5, p5, m5, HL6.out, HR6.out, hp5⟩, hf0, HJ3.out⟩⟩
       case measure => rw [HR6.out.meas, HRr.out.meas, if_neg hf0, if_pos (show flt0.code = 0 from rfl)]; omega
      ·have d6 : (t5 != 6) = true := bne_iff_ne.2 hk6
       obtain ⟨x0, x1, x2, x3, x4, x5, xf⟩ := row6 HL6.out.zero
       obtain ⟨y0, y1, y2, y3, y4, y5, yf⟩ := row6 HL6.out.list
       have l0 := row_lt HL6.out.zero
       have l1 := row_lt HL6.out.list
       clear hk6
       go_wp2_with fail
       exact bodyPost_ret (v := .agg #[.int .i64 5, .bool false, .int .i64 0, .string ⟨#[]⟩, .slice none 0 0, .slice A5 n5 c5]) (by simp only [results, Tryz.results141]; go_simp) rfl (ValE.bad HJ3.out (BadK.finS hlb HL6.out HR6.out hp5 asd))
    ·rw [hq] at hgood
     obtain ⟨hg1, hg2, hg3⟩ := hgood
     have HQv := hid hq
     have HJ3 := hid (show r = if kindAt L q = 4 then .good (tList (acc ++ [t])) (q + 1) m' else if kindAt L q = 6 then readJ L E k1 (.list d (acc ++ [t])) (q + 1) m' else .bad (badF L E 4 q) by rw [HJ2.out, hq])
     clear hq HJ2
     go_upto_region 7 with fail
     go_cut [] from 30 to 38 (fun wx => GoodK (RdAtS L E b) b (9 - d) w (acc ++ [t]) q m' wx)
     case first =>
      go_region_law (first | (go_simp; go_at_call 76; refine (Hv.out k1 hk1n dd p m _ hdd1 hdd9 hp hm3 HNe2.out (HRr.out.below bel)).mono ?_; intro e9 w9 hv9; obtain ⟨cs9, rfl, hO9, hR9, hA9⟩ := ValE.isGood HQv.out hv9; have hO9f := hO9.flat; obtain ⟨U4, u44, U5, u55, rfl, -⟩ := hO9f; obtain ⟨-, -, -, -, -, p5, -⟩ := row6 ((hA9.block (w.heap.size + 1) ly hb1).trans HLb.out.list); have l9 : w.heap.size + 1 < w9.heap.size := Nat.lt_of_lt_of_le ly hA9.size; have Hone := hid hO9.one) | (refine step_append_lies _ rfl _ _ 32 rfl (w.heap.size + 2) 34 i0 (.agg #[.int .i64 0, .bool false, .int .i64 0, .string ⟨#[]⟩, .slice none 0 0, .slice none 0 0]) 6 88 Tryz.underlying32 hi hz0 hz1 hz2 rfl (by decide) _ acc.length ess.flatten rfl (own9a HO.out hA9 rfl (by omega) rfl) ⟨w9.heap.size, 0, none⟩ 1 1 [.int .i64 t.kind, .bool t.flag, .int .i64 t.num, .string t.text, .slice U4 t.keys.length u44, .slice U5 t.kids.length u55] rfl rfl (World.news_of_block (heap_alloc_new w9 _)) Hone.out (by decide) (by unfold maxLen; omega) (by omega) (by have := hA9.size; simp at this ⊢; omega) _ rfl ?_; intro g cap w2 hown2 hgrow2 hat2 hlt2; obtain ⟨-, -, -, -, -, q5, qf⟩ := row6 ((blk9a ly hA9 rfl hgrow2 Hr.out hn1 (by omega)).trans HLb.out.list)))
      all_goals
       have RT2 := (blk9a ly hA9 rfl hgrow2 Hr.out hn1 (by omega)).trans HLb.out.list
       have RZ2 := (blk9a lz hA9 rfl hgrow2 Hr.out hn0 (by omega)).trans HLb.out.zero
       have hgA : Aside (fun q => some q = rb) w9 w2 := Aside.trans (aside_alloc (Aside.refl _ _)) ⟨hgrow2.os, hgrow2.tape, hgrow2.output, hgrow2.size, fun q h1 h2 => hgrow2.block q h1 (fun h => h2 (h.trans Hr.out.symm))⟩
       have hF2 : Aside (fun q => q = b ∨ w.heap.size <= q) w w2 := (HLb.out.aside.join (Aside.trans (Aside.of_below (bel : Below wr.heap.size wr _)) hA9) (fun q hq _ => .inl hq)).join hgA (fun q hq _ => .inr (by have := (Hrl.out q hq.symm).1; omega))
       have hR2 := hR9.past hgA (fun q hq => by have := (Hrl.out q hq.symm).1; omega)
       have hl2 := row_lt RT2
       have hs9 : wr.heap.size <= w9.heap.size := hA9.size
       have hb49 : ∀ x, x < wr.heap.size -> x ≠ b -> w9.heap[x]? = wr.heap[x]? := fun x hx hxb => hA9.block x hx hxb
       obtain ⟨e1, e2, e4, e5, e6, e7⟩ := HE.out
       have Hp := hid (GrowK.push (hi := wr.heap.size) (w := w9.alloc (.cells #[.int .i64 t.kind, .bool t.flag, .int .i64 t.num, .string t.text, .slice U4 t.keys.length u44, .slice U5 t.kids.length u55] 34)) (S := fun x => wr.heap.size <= x /\ x < w9.heap.size) acc.length rfl (by simp; omega) ((hO9.up (show 10 - dd <= 9 - d by have := HDD.out; omega)).carry (fun x hx => Below.heap_alloc _ _ x hx.2) (fun x hx => by have := hx.1; (try simp at this); exact ⟨by omega, hx.2⟩)) (fun x hx => by simp; omega) (by omega) ess F e1 e2 e4 e5 e6
        (fun i d' es' h1 h2 => (e7 i d' es' h1 h2).carry (fun x hx => (Below.heap_alloc _ _ x (by have := (e5 i x hx).2.1; omega)).trans (hb49 x (by have := (e5 i x hx).2.1; omega) (by have := (e5 i x hx).1; omega))) (fun _ h => h)) hown2 hgrow2 (by rcases hat2 with h | h; exact .inl h; exact .inr (by simp at h ⊢; omega)) hlt2)
       go_wp2_with fail
       go_meet
       exact ⟨.slice (some ⟨g, 0, none⟩) (acc.length + 1) cap, ⟨(Below.heap_setCell _ _ _ _ (by simp)).trans RZ2, heap_setCell_same w2 (w.heap.size + 1) 5 _ _ _ RT2, aside_set (.inr (by simp)) hF2⟩, Hp.out.carry (by simp) (fun x h1 _ => Below.heap_setCell _ _ _ _ (by simp; omega)), hR2.past (S := fun q => q = w.heap.size + 1) (aside_set rfl (Aside.refl _ _)) (fun q hq => by omega)⟩
     case rest =>
      obtain ⟨v5, hL5, hG5, hR5⟩ := hcut
      obtain ⟨A5, c5, rfl⟩ := hG5.form
      have HL5 := hid hL5
      have HR5 := hid hR5
      have HG5 := hid hG5
      obtain ⟨t5, ht5⟩ : ∃ t, t = kindAt L q := ⟨_, rfl⟩
      have HT5 := hid ht5
      clear hL5 hR5 hG5 a0 a1 a2 a3 a4' a5 a6 af y0 y1 y2 y3 y4 y5 yf
      go_wp2_with fail
      refine (c_rs_next L E b q m' flt0 _ (by omega) HR5.out).mono ?_
      rintro e w6 ⟨rfl, hb6⟩
      rw [<- HT5.out]
      have HR6 := hid (HR5.out.below hb6)
      have HL6 := hid (HL5.out.same (Aside.of_below (S := fun q => q = b) hb6) (fun q hq => .inl hq) hlb)
      have HG6 := hid (HG5.out.carry hb6.size (fun x h1 h2 => hb6.block x h2))
      obtain ⟨A, c, hbx, -, -⟩ := HR6.out
      unfold rdC at hbx
      obtain ⟨a0, a1, a2, a3, a4, a5, a6, af⟩ := row7r hbx
      have lb6 := row_lt hbx
      have a4' : w6.cell? ⟨b, 4, none⟩ = some (.int .i64 0) := a4
      clear hb6 hbx a4
      by_cases hk6 : kindAt L q = 6
      ·have HF := hid (show r = readJ L E k1 (.list d (acc ++ [t])) (q + 1) m' by rw [HJ3.out, if_neg (by omega), if_pos hk6])
       have hql := kindAt_lt (L := L) (p := q) (by omega)
       have HNx := hid (show needJ L (q + 1) (.list d (acc ++ [t])) <= k1 by have := HNe2.out; unfold needJ at this ⊢; simp only at this ⊢; omega)
       obtain rfl : t5 = 6 := ht5.trans hk6
       clear hk6 ht5
       go_upto_block 1 with fail
       obtain ⟨w7, hw7⟩ : ∃ W, W = w6.setCell ⟨b, 1, none⟩ (.int .i64 ((q : Int) + 1)) := ⟨_, rfl⟩
       have hA7 : Aside (fun q => q = b) w6 w7 := by rw [hw7]; exact aside_set rfl (Aside.refl _ _)
       have hR7 : RdAtS L E b (q + 1) m' flt0 w7 := RdAtS.poke HR6.out hA7 (fun A c h => by rw [hw7]; unfold rdC at h ⊢; exact set7_1 h)
       go_wp2_with fail
       go_roundw
       case rel => rw [<- hw7]; exact ⟨⟨_, rfl⟩, .inl ⟨acc ++ [t], q + 1, m', k1, ⟨_, HL6.out.same hA7 (fun q hq => .inl hq) hlb, HG6.out.carry hA7.size (fun x h1 h2 => hA7.block x h2 (by omega)), hR7⟩, by omega, hg3, by simp; omega, HNx.out, by omega, HF.out⟩⟩
       case measure => rw [<- hw7, hR7.meas, HRr.out.meas, if_pos (show flt0.code = 0 from rfl), if_pos (show flt0.code = 0 from rfl)]; omega
      ·have d6 : (t5 != 6) = true := bne_iff_ne.2 (fun h => hk6 (ht5.symm.trans h))
       by_cases hk4 : kindAt L q = 4
       ·have HF := hid (show r = .good (tList (acc ++ [t])) (q + 1) m' by rw [HJ3.out, if_pos hk4])
        have HK4 := hid hk4
        clear hk4 hk6 ht5
        go_wp2_with fail
        refine (c_rs_want_yes L E 4 b q m' flt0 _ (by omega) HR6.out HK4.out).mono ?_
        rintro e w7 ⟨rfl, hR7, hA7⟩
        have HL7 := hid (HL6.out.same hA7 (fun q hq => .inl hq) hlb)
        have HR7 := hid hR7
        have HG7 := hid (HG6.out.carry hA7.size (fun x h1 h2 => hA7.block x h2 (by omega)))
        obtain ⟨x0, x1, x2, x3, x4, x5, xf⟩ := row6 HL7.out.zero
        obtain ⟨y0, y1, y2, y3, y4, y5, yf⟩ := row6 HL7.out.list
        have l0 := row_lt HL7.out.zero
        have l1 := row_lt HL7.out.list
        clear hR7 hA7 a0 a1 a2 a3 a4' a5 a6 af
        go_wp2_with fail
        exact bodyPost_ret (v := .agg #[.int .i64 5, .bool false, .int .i64 0, .string ⟨#[]⟩, .slice none 0 0, .slice A5 (acc ++ [t]).length c5]) (by simp only [results, Tryz.results141]; go_simp) rfl (ValE.good HF.out (GoodK.finS (nT := nd) hlb HL7.out (HN9.out ▸ HG7.out) HR7.out asd))
       ·have HF := hid (show r = .bad (badF L E 4 q) by rw [HJ3.out, if_neg hk4, if_neg hk6])
        have HK4 := hid hk4
        clear hk4 hk6 ht5
        go_wp2_with fail
        refine (c_rs_want_no L E 4 b q m' flt0 _ (by omega) HR6.out rfl HK4.out).mono ?_
        rintro e w7 ⟨rfl, hR7, hA7⟩
        have HL7 := hid (HL6.out.same hA7 (fun q hq => .inl hq) hlb)
        have HR7 := hid hR7
        obtain ⟨x0, x1, x2, x3, x4, x5, xf⟩ := row6 HL7.out.zero
        obtain ⟨y0, y1, y2, y3, y4, y5, yf⟩ := row6 HL7.out.list
        have l0 := row_lt HL7.out.zero
        have l1 := row_lt HL7.out.list
        clear hR7 hA7 a0 a1 a2 a3 a4' a5 a6 af
        go_wp2_with fail
        exact bodyPost_ret (v := .agg #[.int .i64 5, .bool false, .int .i64 0, .string ⟨#[]⟩, .slice none 0 0, .slice A5 (acc ++ [t]).length c5]) (by simp only [results, Tryz.results141]; go_simp) rfl (ValE.bad HF.out (BadK.finS hlb HL7.out HR7.out hg2 asd))
   ·clear HRel
    obtain ⟨A5, n5, c5, p5, m5, hL5, hR5, hp5⟩ := hB
    have HL5 := hid hL5
    have HR5 := hid hR5
    have HF := hid hrr
    obtain ⟨z, hz⟩ : ∃ z, z = f.code := ⟨_, rfl⟩
    obtain ⟨A, c, hbx, -, -⟩ := hR5
    unfold rdC at hbx
    obtain ⟨a0, a1, a2, a3, a4, a5, a6, af⟩ := row7r hbx
    have lb := row_lt hbx
    rw [<- hz] at a4 hf
    have dz : (z == 0) = false := beq_eq_false_iff_ne.2 hf
    obtain ⟨x0, x1, x2, x3, x4, x5, xf⟩ := row6 HL5.out.zero
    obtain ⟨y0, y1, y2, y3, y4, y5, yf⟩ := row6 HL5.out.list
    have l0 := row_lt HL5.out.zero
    have l1 := row_lt HL5.out.list
    clear hL5 hrr hz hbx hf
    go_wp2_with fail
    exact bodyPost_ret (v := .agg #[.int .i64 5, .bool false, .int .i64 0, .string ⟨#[]⟩, .slice none 0 0, .slice A5 n5 c5]) (by simp only [results, Tryz.results141]; go_simp) rfl (ValE.bad HF.out (BadK.finS hlb HL5.out HR5.out hp5 asd))
open Go.RowKit
theorem six_push {css : List (List Value)} {es : List Value} (h : ∀ es ∈ css, es.length = 6) (he : es.length = 6) : ∀ fs ∈ css ++ [es], fs.length = 6 := by
 intro fs hf
 rcases List.mem_append.1 hf with hf | hf
 ·exact h fs hf
 ·rw [List.mem_singleton.1 hf]; exact he
end Go.Proofs.YtohcpifekcehjaaGreatDoor
