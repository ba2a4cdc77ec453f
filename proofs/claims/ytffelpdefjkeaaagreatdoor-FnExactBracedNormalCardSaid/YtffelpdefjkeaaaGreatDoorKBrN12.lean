/- Written by wip/tools/pack.py: the texts that FnExactBracedNormal needs, without what it does not need. No conditions. -/
import Derived.Test.YtffelpdefjkeaaaGreatDoorKBrN10
import Derived.Test.YtffelpdefjkeaaaGreatDoorKBrN11
import Derived.Test.YtffelpdefjkeaaaGreatDoorKBrN1
namespace Go.Proofs.YtffelpdefjkeaaaGreatDoor
open Go.RowKit Go.Lib
def T_valS (L : List SignD) (E : Int) (b n : Nat) : Prop := ∀ (d p m : Nat) (w : World), 1 ≤ d → d ≤ 9 → p ≤ L.length → m ≤ 300 → needJ L p (.value d) ≤ n → RdAtS L E b p m flt0 w →
  Calls Tryz.prog 31 #[.pointer (some ⟨b, 0, none⟩), .int .i64 d] w (ValE (RdAtS L E b) b L.length (10 - d) (readJ L E n (.value d) p m) w)
def T_listS (L : List SignD) (E : Int) (b n : Nat) : Prop := ∀ (d p m : Nat) (w : World), 1 ≤ d → d ≤ 8 → p ≤ L.length → m ≤ 300 → needJ L p (.list d []) ≤ n → RdAtS L E b p m flt0 w →
  Calls Tryz.prog 62 #[.pointer (some ⟨b, 0, none⟩), .int .i64 d] w (ValE (RdAtS L E b) b L.length (10 - d) (listR L E n d p m) w)
def T_pairsS (L : List SignD) (E : Int) (b n : Nat) : Prop := ∀ (d p m : Nat) (w : World), 1 ≤ d → d ≤ 8 → p ≤ L.length → m ≤ 300 → needJ L p (.pairs d [] []) ≤ n → RdAtS L E b p m flt0 w →
  Calls Tryz.prog 63 #[.pointer (some ⟨b, 0, none⟩), .int .i64 d] w (ValE (RdAtS L E b) b L.length (10 - d) (pairsR L E n d p m) w)
theorem BadT.closeS {L : List SignD} {E : Int} {b N : Nat} {f : Flt} {w w3 w5 wF : World} {e : Ending} (h : BadT (RdAtS L E b) b N f w3 e w5) (hA : Aside (fun q => q = b ∨ w.heap.size ≤ q) w w3) (hF : Aside (fun q => q = w.heap.size) w5 wF) (hb : b < w.heap.size) : BadT (RdAtS L E b) b N f w e wF := by
  obtain ⟨k, fl, nu, t, A4, n4, c4, A5, n5, c5, p', m', h1, h2, h3, h4⟩ := h
  refine ⟨k, fl, nu, t, A4, n4, c4, A5, n5, c5, p', m', h1, h2.past hF (fun q hq => by omega), h3, ?_⟩
  exact Aside.low ((hA.join h4 (fun q hq _ => .inl hq)).join hF (fun q hq _ => .inr (by omega)))
theorem GoodT.closeS {L : List SignD} {E : Int} {b nT : Nat} {t : TreeD} {q m' : Nat} {w w3 w5 wF : World} {e : Ending} (h : GoodT (RdAtS L E b) b nT t q m' w3 e w5) (hA : Aside (fun q => q = b ∨ w.heap.size ≤ q) w w3) (hF : Aside (fun q => q = w.heap.size) w5 wF) (hlt : w.heap.size < w3.heap.size) (hb : b < w.heap.size) : GoodT (RdAtS L E b) b nT t q m' w e wF := by
  obtain ⟨cs, h1, h2, h3, h4⟩ := h
  refine ⟨cs, h1, h2.carry (fun x hx => hF.block x hx.2 (by omega)) (fun x hx => ⟨by omega, Nat.lt_of_lt_of_le hx.2 hF.size⟩), h3.past hF (fun q hq => by omega), ?_⟩
  exact Aside.low ((hA.join h4 (fun q hq _ => .inl hq)).join hF (fun q hq _ => .inr (by omega)))
theorem kindAt_range {L : List SignD} (hL : SgOk L) (p : Nat) : 0 ≤ kindAt L p ∧ kindAt L p ≤ 11 := by
  rcases hx : L[p]? with _ | x
  · rw [kindAt_none hx]; omega
  · rw [kindAt_some hx]
    have := hL.kind p x hx
    omega
theorem c_rs_TextTree (t : ByteArray) (w : World) : Calls Tryz.prog 61 #[.string t] w fun e w' => e = .returned (.agg #[.int .i64 4, .bool false, .int .i64 0, .string t, .slice none 0 0, .slice none 0 0]) ∧ Below w.heap.size w w' := by
  go_enter Tryz.func61, Tryz.ntmps61
  go_wp2_with fail
  exact bodyPost_ret (v := .agg #[.int .i64 4, .bool false, .int .i64 0, .string t, .slice none 0 0, .slice none 0 0]) (by simp only [results, Tryz.results61]; go_simp) rfl ⟨rfl, bel⟩
theorem c_rs_IntTree (x : Int) (w : World) : Calls Tryz.prog 60 #[.int .i64 x] w fun e w' => e = .returned (.agg #[.int .i64 3, .bool false, .int .i64 x, .string ⟨#[]⟩, .slice none 0 0, .slice none 0 0]) ∧ Below w.heap.size w w' := by
  go_enter Tryz.func60, Tryz.ntmps60
  go_wp2_with fail
  exact bodyPost_ret (v := .agg #[.int .i64 3, .bool false, .int .i64 x, .string ⟨#[]⟩, .slice none 0 0, .slice none 0 0]) (by simp only [results, Tryz.results60]; go_simp) rfl ⟨rfl, bel⟩
theorem hin_lit : inB 0 4 6 = false ∧ inB 1 4 6 = false ∧ inB 2 4 6 = false ∧ inB 3 4 6 = false ∧ inB 4 4 6 = true ∧ inB 5 4 6 = true ∧ inB 6 4 6 = true ∧ inB 7 4 6 = false ∧ inB 8 4 6 = false ∧ inB 9 4 6 = false ∧ inB 10 4 6 = false ∧ inB 11 4 6 = false := by decide
set_option maxHeartbeats 4000000 in
set_option maxRecDepth 20000 in
theorem c_vals_form (L : List SignD) (E : Int) (b n d p m : Nat) (w : World) (hL : SgOk L) (hpl : p ≤ L.length) (h : RdAtS L E b p m flt0 w) (hk : ¬ (kindAt L p = 1 ∨ kindAt L p = 3 ∨ 7 ≤ kindAt L p)) :
    Calls Tryz.prog 31 #[.pointer (some ⟨b, 0, none⟩), .int .i64 d] w (ValE (RdAtS L E b) b L.length (10 - d) (readJ L E (n + 1) (.value d) p m) w) := by
  have HRd := Lib.hid h
  have hlb := h.lt
  have hlen := hL.len
  have hnb : ¬ w.heap.size = b := by omega
  have htr := kindAt_range hL p
  obtain ⟨t, ht⟩ : ∃ t, t = kindAt L p := ⟨_, rfl⟩
  obtain ⟨pl, hplc⟩ : ∃ pl, pl = placeAt L E p := ⟨_, rfl⟩
  obtain ⟨r, hr⟩ : ∃ r, r = readJ L E (n + 1) (.value d) p m := ⟨_, rfl⟩
  rw [← hr]
  rw [← ht] at htr
  have HT := Lib.hid ht
  have HP := Lib.hid hplc
  have HR := Lib.hid hr
  rw [readJ_form hk] at HR
  rw [← ht] at hk
  have hcs : t = 0 ∨ t = 2 ∨ t = 4 ∨ t = 5 ∨ t = 6 := by omega
  clear hk ht hr h hplc htr
  rcases hcs with rfl | rfl | rfl | rfl | rfl
  all_goals
    go_enter Tryz.func31, Tryz.ntmps31
    go_wp2_with fail
    refine (c_rs_next L E b p m flt0 _ (by omega) (HRd.out.below bel)).mono ?_
    rintro e w1 ⟨rfl, hb1⟩
    rw [← HT.out, ← HP.out]
    have HB1 := Lib.hid (bel : Below w.heap.size w w1)
    have HT1 := Lib.hid ((hb1.block w.heap.size (by simp)).trans (heap_at (w := w) (o := .cells #[.int .i64 0, .bool false, .int .i64 0, .string ⟨#[]⟩, .slice none 0 0, .slice none 0 0] 27) rfl))
    have HR1 := Lib.hid (HRd.out.below HB1.out)
    have hl1 := row_lt HT1.out
    clear hb1
    obtain ⟨q0, q1, q2, q3, q4, q5, q6, q7, q8, q9, q10, q11⟩ := hin_lit
    go_wp2_with (go_at_call 59; refine (c_spec_l01In _ _ _ _).mono ?_; rintro e w9 ⟨rfl, rfl⟩)
    refine (c_rs_bad_new L E 4 pl b p m flt0 _ HR1.out rfl).mono ?_
    rintro e w2 ⟨rfl, hR2, hA2⟩
    have HR2 := Lib.hid (show RdAtS L E b p m (badF L E 4 p) w2 by unfold badF; rw [← HP.out]; exact hR2)
    have HA2 := Lib.hid hA2
    have HT2 := Lib.hid ((hA2.block _ hl1 hnb).trans HT1.out)
    have hl2 := row_lt HT2.out
    clear hR2 hA2
    obtain ⟨x0, x1, x2, x3, x4, x5, xf⟩ := row6 HT2.out
    go_wp2_with fail
    exact bodyPost_ret (v := .agg #[.int .i64 0, .bool false, .int .i64 0, .string ⟨#[]⟩, .slice none 0 0, .slice none 0 0]) (by simp only [results, Tryz.results31]; go_simp) rfl (ValE.bad HR.out (BadT.closeS ⟨0, false, 0, ⟨#[]⟩, none, 0, 0, none, 0, 0, p, m, rfl, HR2.out, hpl, HA2.out⟩ (Aside.of_below HB1.out) (by repeat (first | (with_reducible exact Aside.refl _ _) | ((with_reducible refine aside_set ?_ ?_); (focus (simp; done))) | (with_reducible refine aside_alloc ?_))) hlb))
set_option maxHeartbeats 4000000 in
set_option maxRecDepth 20000 in
theorem c_vals_deep (L : List SignD) (E : Int) (b n d p m : Nat) (w : World) (hL : SgOk L) (hpl : p ≤ L.length) (h : RdAtS L E b p m flt0 w) (hk : kindAt L p = 1 ∨ kindAt L p = 3 ∨ 7 ≤ kindAt L p) (h8 : 8 < d) :
    Calls Tryz.prog 31 #[.pointer (some ⟨b, 0, none⟩), .int .i64 d] w (ValE (RdAtS L E b) b L.length (10 - d) (readJ L E (n + 1) (.value d) p m) w) := by
  have HRd := Lib.hid h
  have hlb := h.lt
  have hlen := hL.len
  have hnb : ¬ w.heap.size = b := by omega
  have htr := kindAt_range hL p
  obtain ⟨t, ht⟩ : ∃ t, t = kindAt L p := ⟨_, rfl⟩
  obtain ⟨pl, hplc⟩ : ∃ pl, pl = placeAt L E p := ⟨_, rfl⟩
  obtain ⟨r, hr⟩ : ∃ r, r = readJ L E (n + 1) (.value d) p m := ⟨_, rfl⟩
  rw [← hr]
  rw [← ht] at htr
  have HT := Lib.hid ht
  have HP := Lib.hid hplc
  have HR := Lib.hid hr
  rw [readJ_deep hk h8] at HR
  have hcs : t = 1 ∨ t = 3 ∨ t = 7 ∨ t = 8 ∨ t = 9 ∨ t = 10 ∨ t = 11 := by rw [← ht] at hk; omega
  have d8 : (8 : Int) < d := by omega
  clear hk h8 ht hr h hplc htr
  rcases hcs with rfl | rfl | rfl | rfl | rfl | rfl | rfl
  all_goals
    go_enter Tryz.func31, Tryz.ntmps31
    go_wp2_with fail
    refine (c_rs_next L E b p m flt0 _ (by omega) (HRd.out.below bel)).mono ?_
    rintro e w1 ⟨rfl, hb1⟩
    rw [← HT.out, ← HP.out]
    have HB1 := Lib.hid (bel : Below w.heap.size w w1)
    have HT1 := Lib.hid ((hb1.block w.heap.size (by simp)).trans (heap_at (w := w) (o := .cells #[.int .i64 0, .bool false, .int .i64 0, .string ⟨#[]⟩, .slice none 0 0, .slice none 0 0] 27) rfl))
    have HR1 := Lib.hid (HRd.out.below HB1.out)
    have hl1 := row_lt HT1.out
    clear hb1
    obtain ⟨q0, q1, q2, q3, q4, q5, q6, q7, q8, q9, q10, q11⟩ := hin_lit
    go_wp2_with (go_at_call 59; refine (c_spec_l01In _ _ _ _).mono ?_; rintro e w9 ⟨rfl, rfl⟩)
    refine (c_rs_bad_new L E 6 pl b p m flt0 _ HR1.out rfl).mono ?_
    rintro e w2 ⟨rfl, hR2, hA2⟩
    have HR2 := Lib.hid (show RdAtS L E b p m (badF L E 6 p) w2 by unfold badF; rw [← HP.out]; exact hR2)
    have HA2 := Lib.hid hA2
    have HT2 := Lib.hid ((hA2.block _ hl1 hnb).trans HT1.out)
    have hl2 := row_lt HT2.out
    clear hR2 hA2
    obtain ⟨x0, x1, x2, x3, x4, x5, xf⟩ := row6 HT2.out
    go_wp2_with fail
    exact bodyPost_ret (v := .agg #[.int .i64 0, .bool false, .int .i64 0, .string ⟨#[]⟩, .slice none 0 0, .slice none 0 0]) (by simp only [results, Tryz.results31]; go_simp) rfl (ValE.bad HR.out (BadT.closeS ⟨0, false, 0, ⟨#[]⟩, none, 0, 0, none, 0, 0, p, m, rfl, HR2.out, hpl, HA2.out⟩ (Aside.of_below HB1.out) (by repeat (first | (with_reducible exact Aside.refl _ _) | ((with_reducible refine aside_set ?_ ?_); (focus (simp; done))) | (with_reducible refine aside_alloc ?_))) hlb))
set_option maxHeartbeats 4000000 in
set_option maxRecDepth 20000 in
theorem c_vals_many (L : List SignD) (E : Int) (b n d p m : Nat) (w : World) (hL : SgOk L) (hpl : p ≤ L.length) (h : RdAtS L E b p m flt0 w) (hm : m ≤ 300) (hk : kindAt L p = 1 ∨ kindAt L p = 3 ∨ 7 ≤ kindAt L p) (h8 : ¬ 8 < d) (h3 : 300 ≤ m) :
    Calls Tryz.prog 31 #[.pointer (some ⟨b, 0, none⟩), .int .i64 d] w (ValE (RdAtS L E b) b L.length (10 - d) (readJ L E (n + 1) (.value d) p m) w) := by
  have HRd := Lib.hid h
  have hlb := h.lt
  have hlen := hL.len
  have hnb : ¬ w.heap.size = b := by omega
  have htr := kindAt_range hL p
  obtain ⟨t, ht⟩ : ∃ t, t = kindAt L p := ⟨_, rfl⟩
  obtain ⟨pl, hplc⟩ : ∃ pl, pl = placeAt L E p := ⟨_, rfl⟩
  obtain ⟨r, hr⟩ : ∃ r, r = readJ L E (n + 1) (.value d) p m := ⟨_, rfl⟩
  rw [← hr]
  rw [← ht] at htr
  have HT := Lib.hid ht
  have HP := Lib.hid hplc
  have HR := Lib.hid hr
  rw [readJ_many hk h8 h3] at HR
  have hcs : t = 1 ∨ t = 3 ∨ t = 7 ∨ t = 8 ∨ t = 9 ∨ t = 10 ∨ t = 11 := by rw [← ht] at hk; omega
  have d8 : decide ((8 : Int) < d) = false := decide_eq_false (by omega)
  have d300 : (300 : Int) < (m : Int) + 1 := by omega
  have hm9 : (m : Int) ≤ 300 := by omega
  clear hk h8 h3 ht hr h hplc htr
  rcases hcs with rfl | rfl | rfl | rfl | rfl | rfl | rfl
  all_goals
    go_enter Tryz.func31, Tryz.ntmps31
    go_wp2_with fail
    refine (c_rs_next L E b p m flt0 _ (by omega) (HRd.out.below bel)).mono ?_
    rintro e w1 ⟨rfl, hb1⟩
    rw [← HT.out, ← HP.out]
    have HB1 := Lib.hid (bel : Below w.heap.size w w1)
    have HT1 := Lib.hid ((hb1.block w.heap.size (by simp)).trans (heap_at (w := w) (o := .cells #[.int .i64 0, .bool false, .int .i64 0, .string ⟨#[]⟩, .slice none 0 0, .slice none 0 0] 27) rfl))
    have HR1 := Lib.hid (HRd.out.below HB1.out)
    have hl1 := row_lt HT1.out
    clear hb1
    obtain ⟨q0, q1, q2, q3, q4, q5, q6, q7, q8, q9, q10, q11⟩ := hin_lit
    obtain ⟨A, c, hbx, -, -⟩ := HR1.out
    unfold rdC at hbx
    obtain ⟨a0, a1, a2, a3, a4, a5, a6, af⟩ := row7r hbx
    have l1 := row_lt hbx
    clear hbx
    go_wp2_with (go_at_call 59; refine (c_spec_l01In _ _ _ _).mono ?_; rintro e w9 ⟨rfl, rfl⟩)
    obtain ⟨w8, hw8⟩ : ∃ W, W = w1.setCell ⟨b, 3, none⟩ (.int .i64 ((m : Int) + 1)) := ⟨_, rfl⟩
    rw [← hw8]
    have hA8 : Aside (fun q => q = b) w1 w8 := by rw [hw8]; exact aside_set rfl (Aside.refl _ _)
    have hR8 : RdAtS L E b p (m + 1) flt0 w8 := RdAtS.poke HR1.out hA8 (fun A c h => by rw [hw8]; unfold rdC at h ⊢; exact set7_3 h)
    have HR8 := Lib.hid hR8
    have HA8 := Lib.hid hA8
    have HT8 := Lib.hid ((hA8.block _ hl1 hnb).trans HT1.out)
    have hl8 := row_lt HT8.out
    clear hw8 hA8 hR8 a0 a1 a2 a3 a4 a5 a6 af
    refine (c_rs_bad_new L E 7 pl b p (m + 1) flt0 _ HR8.out rfl).mono ?_
    rintro e w2 ⟨rfl, hR2, hA2⟩
    have HR2 := Lib.hid (show RdAtS L E b p (m + 1) (badF L E 7 p) w2 by unfold badF; rw [← HP.out]; exact hR2)
    have HA2 := Lib.hid hA2
    have HT2 := Lib.hid ((hA2.block _ hl8 hnb).trans HT8.out)
    have hl2 := row_lt HT2.out
    clear hR2 hA2
    obtain ⟨x0, x1, x2, x3, x4, x5, xf⟩ := row6 HT2.out
    go_wp2_with fail
    exact bodyPost_ret (v := .agg #[.int .i64 0, .bool false, .int .i64 0, .string ⟨#[]⟩, .slice none 0 0, .slice none 0 0]) (by simp only [results, Tryz.results31]; go_simp) rfl (ValE.bad HR.out (BadT.closeS ⟨0, false, 0, ⟨#[]⟩, none, 0, 0, none, 0, 0, p, (m + 1), rfl, HR2.out, hpl, HA2.out⟩ ((Aside.of_below HB1.out).trans (HA8.out.mono (fun q h => .inl h))) (by repeat (first | (with_reducible exact Aside.refl _ _) | ((with_reducible refine aside_set ?_ ?_); (focus (simp; done))) | (with_reducible refine aside_alloc ?_))) hlb))
end Go.Proofs.YtffelpdefjkeaaaGreatDoor
namespace Go.Proofs.YtffelpdefjkeaaaGreatDoor
open Go.RowKit Go.Lib
set_option maxHeartbeats 8000000 in
set_option maxRecDepth 20000 in
theorem c_val_wide (L : List SignD) (E : Int) (b n d p m : Nat) (x : SignD) (w : World) (hL : SgOk L) (hx : L[p]? = some x) (hk : x.kind = 7) (hd8 : ¬ 8 < d) (hm3 : ¬ 300 ≤ m) (h : RdAt L E b p m flt0 w) (hsz : 400 < x.text.size) :
    Calls Tryz.prog 34 #[.pointer (some ⟨b, 0, none⟩), .int .i64 d] w (ValE (RdAt L E b) b L.length (10 - d) (readJ L E (n + 1) (.value d) p m) w) := by
  have HRd := Lib.hid h
  have hlb := h.lt
  have hlen := hL.len
  have hpl : p < L.length := (List.getElem?_eq_some_iff.1 hx).1
  have hz0 : (0 : Int) ≤ p := by omega
  have hz1 : (p : Int) < L.length := by omega
  have hnb : ¬ w.heap.size = b := by omega
  obtain ⟨r, hr⟩ : ∃ r, r = readJ L E (n + 1) (.value d) p m := ⟨_, rfl⟩
  obtain ⟨nd, hnd⟩ : ∃ k, 10 - d = k + 1 := ⟨9 - d, by omega⟩
  rw [← hr, hnd]
  have hkk : kindAt L p = 7 := (kindAt_some hx).trans hk
  rw [readJ_go hx (by rw [hkk]; decide) hd8 hm3] at hr
  have HK := Lib.hid hkk
  have HX := Lib.hid hx
  have HN := Lib.hid hnd
  have htx := hL.text p x hx
  have hnx := hL.num p x hx
  unfold I64 at hnx
  obtain ⟨hnx1, hnx2⟩ := hnx
  have d8 : decide ((8 : Int) < d) = false := decide_eq_false (by omega)
  have d300 : decide ((300 : Int) ≤ m) = false := decide_eq_false (by omega)
  have hm9 : (m : Int) ≤ 300 := by omega
  rw [if_pos hk, if_pos hsz] at hr
  have HR := Lib.hid hr
  have dsz : decide ((400 : Int) < x.text.size) = true := decide_eq_true (by omega)
  clear hsz
  clear hr h hx hkk hk hnd hd8 hm3
  go_enter Tryz.func34, Tryz.ntmps34
  go_wp2_with fail
  refine (c_rd_kind L E b p m flt0 _ (by omega) (HRd.out.below bel)).mono ?_
  rintro e w1 ⟨rfl, hb1⟩
  rw [HK.out]
  have HB1 := Lib.hid (bel : Below w.heap.size w w1)
  have HT1 := Lib.hid ((hb1.block w.heap.size (by simp)).trans (heap_at (w := w) (o := .cells #[.int .i64 0, .bool false, .int .i64 0, .string ⟨#[]⟩, .slice none 0 0, .slice none 0 0] 27) rfl))
  have HR1 := Lib.hid (HRd.out.below HB1.out)
  have hl1 := row_lt HT1.out
  obtain ⟨A, c, hbx, -, -⟩ := HR1.out
  unfold rdC at hbx
  obtain ⟨a0, a1, a2, a3, a4, a5, a6, af⟩ := row7r hbx
  have l1 := row_lt hbx
  have a4' : w1.cell? ⟨b, 4, none⟩ = some (.int .i64 0) := a4
  clear hbx hb1 a4
  go_upto_region 11 with fail
  obtain ⟨w2, hw2⟩ : ∃ W, W = w1.setCell ⟨b, 3, none⟩ (.int .i64 ((m : Int) + 1)) := ⟨_, rfl⟩
  have hA2 : Aside (fun q => q = b) w1 w2 := by rw [hw2]; exact aside_set rfl (Aside.refl _ _)
  have hR2 : RdAt L E b p (m + 1) flt0 w2 := RdAt.poke HR1.out hA2 (fun A c h => by rw [hw2]; unfold rdC at h ⊢; exact set7_3 h)
  rw [← hw2]
  have HR2 := Lib.hid hR2
  have HA2 := Lib.hid hA2
  have HT2 := Lib.hid ((hA2.block _ hl1 hnb).trans HT1.out)
  have hl2 := row_lt HT2.out
  clear a0 a1 a2 a3 a4' a5 a6 af hR2 hA2 hw2
  obtain ⟨A2, c2, hbx, hrow, -⟩ := HR2.out
  unfold rdC at hbx
  obtain ⟨a0, a1, a2, a3, a4, a5, a6, af⟩ := row7r hbx
  have l2 := row_lt hbx
  obtain ⟨g, y, rfl, hy, hlc, lg, s0, s1, s2, s3⟩ := sign_row (p := p) hrow hpl
  obtain rfl : y = x := Option.some.inj (hy.symm.trans HX.out)
  clear hbx hrow hy
  go_cut [6] from 49 to 58 (fun s6 wx => s6 = .pointer (some ⟨w2.heap.size, 0, none⟩) ∧ wx.heap[w2.heap.size]? = some (.cells #[.int .i64 y.kind, .string y.text, .int .i64 y.num, .int .i64 y.at'] 54 (0, 0)) ∧ Below w2.heap.size w2 wx)
  case first =>
    go_region_law (fail)
    all_goals
      go_wp2_with fail
      go_meet
      exact ⟨rfl, heap_at (by simp), bel⟩
  case rest =>
    obtain ⟨rfl, hXr, hBc⟩ := hcut
    have HXr := Lib.hid hXr
    have HBc := Lib.hid hBc
    have HRc := Lib.hid (HR2.out.below hBc)
    have HTc := Lib.hid ((hBc.block _ hl2).trans HT2.out)
    have hl3 := row_lt HTc.out
    have hl3x := row_lt hXr
    have hnx3 : ¬ w2.heap.size = b := by omega
    have hnxt : ¬ w2.heap.size = w.heap.size := by omega
    clear a0 a1 a2 a3 a4 a5 a6 af s0 s1 s2 s3 hXr hBc
    obtain ⟨A3, c3, hbx, -, -⟩ := HRc.out
    unfold rdC at hbx
    obtain ⟨a0, a1, a2, a3, a4, a5, a6, af⟩ := row7r hbx
    have l3 := row_lt hbx
    obtain ⟨y0, y1, y2, y3, yf⟩ := row4 HXr.out
    clear hbx
    go_wp2_with fail
    refine (c_rd_fail_new L E 8 b p (m + 1) flt0 _ (by omega) HRc.out rfl).mono ?_
    rintro e w8 ⟨rfl, hR8, hA8⟩
    have HR8 := Lib.hid hR8
    have HA8 := Lib.hid hA8
    have HT8 := Lib.hid ((hA8.block _ hl3 hnb).trans HTc.out)
    have HX8 := Lib.hid ((hA8.block _ hl3x hnx3).trans HXr.out)
    clear a0 a1 a2 a3 a4 a5 a6 af y0 y1 y2 y3 yf hR8 hA8
    obtain ⟨A8, c8, hbx, -, -⟩ := HR8.out
    unfold rdC at hbx
    obtain ⟨a0, a1, a2, a3, a4, a5, a6, af⟩ := row7r hbx
    obtain ⟨y0, y1, y2, y3, yf⟩ := row4 HX8.out
    have l8 := row_lt hbx
    have l8x := row_lt HX8.out
    clear hbx
    go_upto_region 15 with fail
    obtain ⟨w3, hw3⟩ : ∃ W, W = w8.setCell ⟨b, 1, none⟩ (.int .i64 ((p : Int) + 1)) := ⟨_, rfl⟩
    have hA3 : Aside (fun q => q = b) w8 w3 := by rw [hw3]; exact aside_set rfl (Aside.refl _ _)
    have hR3 : RdAt L E b (p + 1) (m + 1) (badF L E 8 p) w3 := RdAt.poke HR8.out hA3 (fun A c h => by rw [hw3]; unfold rdC at h ⊢; exact set7_1 h)
    rw [← hw3]
    have HR3 := Lib.hid hR3
    have HT3 := Lib.hid ((hA3.block _ (row_lt HT8.out) hnb).trans HT8.out)
    have HX3 := Lib.hid ((hA3.block _ (row_lt HX8.out) hnx3).trans HX8.out)
    have HAw := Lib.hid (show Aside (fun q => q = b ∨ w.heap.size ≤ q) w w3 from (Aside.of_below HB1.out).trans ((HA2.out.mono (fun q h => .inl h)).trans ((Aside.of_below HBc.out).trans ((HA8.out.mono (fun q h => .inl h)).trans (hA3.mono (fun q h => .inl h))))))
    have hl4 := row_lt HT3.out
    have hl4x := row_lt HX3.out
    have hl4b := hR3.lt
    clear a0 a1 a2 a3 a4 a5 a6 af y0 y1 y2 y3 yf hR3 hA3 hw3
    obtain ⟨z0, z1, z2, z3, zf⟩ := row4 HX3.out
    obtain ⟨x0, x1, x2, x3, x4, x5, xf⟩ := row6 HT3.out
    go_wp2_with fail
    refine (c_rd_TextTree y.text _).mono ?_
    rintro e w9 ⟨rfl, hb9⟩
    have HB9 := Lib.hid hb9
    have HT9 := Lib.hid ((hb9.block _ hl4).trans HT3.out)
    have hl9 := row_lt HT9.out
    clear x0 x1 x2 x3 x4 x5 xf z0 z1 z2 z3 zf hb9
    obtain ⟨x0, x1, x2, x3, x4, x5, xf⟩ := row6 HT9.out
    go_wp2_with fail
    exact bodyPost_ret (v := .agg #[.int .i64 4, .bool false, .int .i64 0, .string y.text, .slice none 0 0, .slice none 0 0]) (by simp only [results, Tryz.results34]; go_simp) rfl (ValE.bad HR.out (BadT.close (w3 := w3) ⟨4, false, 0, y.text, none, 0, 0, none, 0, 0, p + 1, m + 1, rfl, HR3.out.below HB9.out, by omega, Aside.of_below HB9.out⟩ HAw.out (by repeat (first | (with_reducible exact Aside.refl _ _) | ((with_reducible refine aside_set ?_ ?_); (focus (simp; done))) | (with_reducible refine aside_alloc ?_))) hlb))
set_option maxHeartbeats 8000000 in
set_option maxRecDepth 20000 in
theorem c_val_list (L : List SignD) (E : Int) (b n d p m : Nat) (x : SignD) (w : World) (hL : SgOk L) (hx : L[p]? = some x) (hk : x.kind = 3) (hd8 : ¬ 8 < d) (hm3 : ¬ 300 ≤ m) (h : RdAt L E b p m flt0 w) (hd1 : 1 ≤ d) (hn : needJ L p (.value d) ≤ n + 1) (hl : T_listI L E b n) :
    Calls Tryz.prog 34 #[.pointer (some ⟨b, 0, none⟩), .int .i64 d] w (ValE (RdAt L E b) b L.length (10 - d) (readJ L E (n + 1) (.value d) p m) w) := by
  have HRd := Lib.hid h
  have hlb := h.lt
  have hlen := hL.len
  have hpl : p < L.length := (List.getElem?_eq_some_iff.1 hx).1
  have hz0 : (0 : Int) ≤ p := by omega
  have hz1 : (p : Int) < L.length := by omega
  have hnb : ¬ w.heap.size = b := by omega
  obtain ⟨r, hr⟩ : ∃ r, r = readJ L E (n + 1) (.value d) p m := ⟨_, rfl⟩
  obtain ⟨nd, hnd⟩ : ∃ k, 10 - d = k + 1 := ⟨9 - d, by omega⟩
  rw [← hr, hnd]
  have hkk : kindAt L p = 3 := (kindAt_some hx).trans hk
  rw [readJ_go hx (by rw [hkk]; decide) hd8 hm3] at hr
  have HK := Lib.hid hkk
  have HX := Lib.hid hx
  have HN := Lib.hid hnd
  have htx := hL.text p x hx
  have hnx := hL.num p x hx
  unfold I64 at hnx
  obtain ⟨hnx1, hnx2⟩ := hnx
  have d8 : decide ((8 : Int) < d) = false := decide_eq_false (by omega)
  have d300 : decide ((300 : Int) ≤ m) = false := decide_eq_false (by omega)
  have hm9 : (m : Int) ≤ 300 := by omega
  rw [if_neg (by rw [hk]; decide), if_neg (by rw [hk]; decide), if_neg (by rw [hk]; decide), if_pos hk] at hr
  rw [← hnd]
  have HR := Lib.hid hr
  have hdd : d ≤ 8 := by omega
  have hmm : m + 1 ≤ 300 := by omega
  have hpp : p + 1 ≤ L.length := by omega
  have HNe := Lib.hid (show needJ L (p + 1) (.list d []) ≤ n by unfold needJ at hn ⊢; simp only at hn ⊢; omega)
  have HL := Lib.hid hl
  clear hl hn
  clear hr h hx hkk hk hnd hd8 hm3
  go_enter Tryz.func34, Tryz.ntmps34
  go_wp2_with fail
  refine (c_rd_kind L E b p m flt0 _ (by omega) (HRd.out.below bel)).mono ?_
  rintro e w1 ⟨rfl, hb1⟩
  rw [HK.out]
  have HB1 := Lib.hid (bel : Below w.heap.size w w1)
  have HT1 := Lib.hid ((hb1.block w.heap.size (by simp)).trans (heap_at (w := w) (o := .cells #[.int .i64 0, .bool false, .int .i64 0, .string ⟨#[]⟩, .slice none 0 0, .slice none 0 0] 27) rfl))
  have HR1 := Lib.hid (HRd.out.below HB1.out)
  have hl1 := row_lt HT1.out
  obtain ⟨A, c, hbx, -, -⟩ := HR1.out
  unfold rdC at hbx
  obtain ⟨a0, a1, a2, a3, a4, a5, a6, af⟩ := row7r hbx
  have l1 := row_lt hbx
  have a4' : w1.cell? ⟨b, 4, none⟩ = some (.int .i64 0) := a4
  clear hbx hb1 a4
  go_upto_region 11 with fail
  obtain ⟨w2, hw2⟩ : ∃ W, W = w1.setCell ⟨b, 3, none⟩ (.int .i64 ((m : Int) + 1)) := ⟨_, rfl⟩
  have hA2 : Aside (fun q => q = b) w1 w2 := by rw [hw2]; exact aside_set rfl (Aside.refl _ _)
  have hR2 : RdAt L E b p (m + 1) flt0 w2 := RdAt.poke HR1.out hA2 (fun A c h => by rw [hw2]; unfold rdC at h ⊢; exact set7_3 h)
  rw [← hw2]
  have HR2 := Lib.hid hR2
  have HA2 := Lib.hid hA2
  have HT2 := Lib.hid ((hA2.block _ hl1 hnb).trans HT1.out)
  have hl2 := row_lt HT2.out
  clear a0 a1 a2 a3 a4' a5 a6 af hR2 hA2 hw2
  obtain ⟨A2, c2, hbx, hrow, -⟩ := HR2.out
  unfold rdC at hbx
  obtain ⟨a0, a1, a2, a3, a4, a5, a6, af⟩ := row7r hbx
  have l2 := row_lt hbx
  obtain ⟨g, y, rfl, hy, hlc, lg, s0, s1, s2, s3⟩ := sign_row (p := p) hrow hpl
  obtain rfl : y = x := Option.some.inj (hy.symm.trans HX.out)
  clear hbx hrow hy
  go_cut [6] from 49 to 58 (fun s6 wx => s6 = .pointer (some ⟨w2.heap.size, 0, none⟩) ∧ wx.heap[w2.heap.size]? = some (.cells #[.int .i64 y.kind, .string y.text, .int .i64 y.num, .int .i64 y.at'] 54 (0, 0)) ∧ Below w2.heap.size w2 wx)
  case first =>
    go_region_law (fail)
    all_goals
      go_wp2_with fail
      go_meet
      exact ⟨rfl, heap_at (by simp), bel⟩
  case rest =>
    obtain ⟨rfl, hXr, hBc⟩ := hcut
    have HXr := Lib.hid hXr
    have HBc := Lib.hid hBc
    have HRc := Lib.hid (HR2.out.below hBc)
    have HTc := Lib.hid ((hBc.block _ hl2).trans HT2.out)
    have hl3 := row_lt HTc.out
    have hl3x := row_lt hXr
    have hnx3 : ¬ w2.heap.size = b := by omega
    have hnxt : ¬ w2.heap.size = w.heap.size := by omega
    clear a0 a1 a2 a3 a4 a5 a6 af s0 s1 s2 s3 hXr hBc
    obtain ⟨A3, c3, hbx, -, -⟩ := HRc.out
    unfold rdC at hbx
    obtain ⟨a0, a1, a2, a3, a4, a5, a6, af⟩ := row7r hbx
    have l3 := row_lt hbx
    obtain ⟨y0, y1, y2, y3, yf⟩ := row4 HXr.out
    clear hbx
    go_upto_region 15 with fail
    obtain ⟨w3, hw3⟩ : ∃ W, W = wc.setCell ⟨b, 1, none⟩ (.int .i64 ((p : Int) + 1)) := ⟨_, rfl⟩
    have hA3 : Aside (fun q => q = b) wc w3 := by rw [hw3]; exact aside_set rfl (Aside.refl _ _)
    have hR3 : RdAt L E b (p + 1) (m + 1) flt0 w3 := RdAt.poke HRc.out hA3 (fun A c h => by rw [hw3]; unfold rdC at h ⊢; exact set7_1 h)
    rw [← hw3]
    have HR3 := Lib.hid hR3
    have HT3 := Lib.hid ((hA3.block _ (row_lt HTc.out) hnb).trans HTc.out)
    have HX3 := Lib.hid ((hA3.block _ (row_lt HXr.out) hnx3).trans HXr.out)
    have HAw := Lib.hid (show Aside (fun q => q = b ∨ w.heap.size ≤ q) w w3 from (Aside.of_below HB1.out).trans ((HA2.out.mono (fun q h => .inl h)).trans ((Aside.of_below HBc.out).trans ((Aside.refl _ wc).trans (hA3.mono (fun q h => .inl h))))))
    have hl4 := row_lt HT3.out
    have hl4x := row_lt HX3.out
    have hl4b := hR3.lt
    clear a0 a1 a2 a3 a4 a5 a6 af y0 y1 y2 y3 yf hR3 hA3 hw3
    obtain ⟨z0, z1, z2, z3, zf⟩ := row4 HX3.out
    obtain ⟨x0, x1, x2, x3, x4, x5, xf⟩ := row6 HT3.out
    go_wp2_with fail
    refine (HL.out d (p + 1) (m + 1) _ hd1 hdd hpp hmm HNe.out HR3.out).mono ?_
    intro e w5 hv
    rcases hq : listR L E n d (p + 1) (m + 1) with f | ⟨t', q, m'⟩
    · have HQ := Lib.hid (HR.out.trans hq)
      have hv' := ValE.isBad hq hv
      have HV := Lib.hid hv'
      obtain ⟨k5, f5, n5, t5, A45, n45, c45, A55, n55, c55, p5, m5, rfl, hR5, hp5, hA5⟩ := hv'
      have HT5 := Lib.hid ((hA5.block _ hl4 hnb).trans HT3.out)
      have hl5 := row_lt HT5.out
      clear x0 x1 x2 x3 x4 x5 xf z0 z1 z2 z3 zf hv hq hR5 hA5
      obtain ⟨x0, x1, x2, x3, x4, x5, xf⟩ := row6 HT5.out
      go_wp2_with fail
      exact bodyPost_ret (v := .agg #[.int .i64 k5, .bool f5, .int .i64 n5, .string t5, .slice A45 n45 c45, .slice A55 n55 c55]) (by simp only [results, Tryz.results34]; go_simp) rfl (ValE.bad HQ.out (BadT.close HV.out HAw.out (by repeat (first | (with_reducible exact Aside.refl _ _) | ((with_reducible refine aside_set ?_ ?_); (focus (simp; done))) | (with_reducible refine aside_alloc ?_))) hlb))
    · have HQ := Lib.hid (HR.out.trans hq)
      have hv' := ValE.isGood hq hv
      have HV := Lib.hid hv'
      obtain ⟨cs, rfl, hO5, hR5, hA5⟩ := hv'
      obtain ⟨A4, c4, A5, c5, rfl, -⟩ := hO5.flat
      have HT5 := Lib.hid ((hA5.block _ hl4 hnb).trans HT3.out)
      have hl5 := row_lt HT5.out
      clear x0 x1 x2 x3 x4 x5 xf z0 z1 z2 z3 zf hv hq hR5 hA5 hO5
      obtain ⟨x0, x1, x2, x3, x4, x5, xf⟩ := row6 HT5.out
      go_wp2_with fail
      exact bodyPost_ret (v := .agg #[.int .i64 t'.kind, .bool t'.flag, .int .i64 t'.num, .string t'.text, .slice A4 t'.keys.length c4, .slice A5 t'.kids.length c5]) (by simp only [results, Tryz.results34]; go_simp) rfl (ValE.good HQ.out (GoodT.close HV.out HAw.out (by repeat (first | (with_reducible exact Aside.refl _ _) | ((with_reducible refine aside_set ?_ ?_); (focus (simp; done))) | (with_reducible refine aside_alloc ?_))) (by omega) hlb))
set_option maxHeartbeats 8000000 in
set_option maxRecDepth 20000 in
theorem c_val_pairs (L : List SignD) (E : Int) (b n d p m : Nat) (x : SignD) (w : World) (hL : SgOk L) (hx : L[p]? = some x) (hk : x.kind = 1) (hd8 : ¬ 8 < d) (hm3 : ¬ 300 ≤ m) (h : RdAt L E b p m flt0 w) (hd1 : 1 ≤ d) (hn : needJ L p (.value d) ≤ n + 1) (hl : T_pairsI L E b n) :
    Calls Tryz.prog 34 #[.pointer (some ⟨b, 0, none⟩), .int .i64 d] w (ValE (RdAt L E b) b L.length (10 - d) (readJ L E (n + 1) (.value d) p m) w) := by
  have HRd := Lib.hid h
  have hlb := h.lt
  have hlen := hL.len
  have hpl : p < L.length := (List.getElem?_eq_some_iff.1 hx).1
  have hz0 : (0 : Int) ≤ p := by omega
  have hz1 : (p : Int) < L.length := by omega
  have hnb : ¬ w.heap.size = b := by omega
  obtain ⟨r, hr⟩ : ∃ r, r = readJ L E (n + 1) (.value d) p m := ⟨_, rfl⟩
  obtain ⟨nd, hnd⟩ : ∃ k, 10 - d = k + 1 := ⟨9 - d, by omega⟩
  rw [← hr, hnd]
  have hkk : kindAt L p = 1 := (kindAt_some hx).trans hk
  rw [readJ_go hx (by rw [hkk]; decide) hd8 hm3] at hr
  have HK := Lib.hid hkk
  have HX := Lib.hid hx
  have HN := Lib.hid hnd
  have htx := hL.text p x hx
  have hnx := hL.num p x hx
  unfold I64 at hnx
  obtain ⟨hnx1, hnx2⟩ := hnx
  have d8 : decide ((8 : Int) < d) = false := decide_eq_false (by omega)
  have d300 : decide ((300 : Int) ≤ m) = false := decide_eq_false (by omega)
  have hm9 : (m : Int) ≤ 300 := by omega
  rw [if_neg (by rw [hk]; decide), if_neg (by rw [hk]; decide), if_neg (by rw [hk]; decide), if_neg (by rw [hk]; decide), if_pos hk] at hr
  rw [← hnd]
  have HR := Lib.hid hr
  have hdd : d ≤ 8 := by omega
  have hmm : m + 1 ≤ 300 := by omega
  have hpp : p + 1 ≤ L.length := by omega
  have HNe := Lib.hid (show needJ L (p + 1) (.pairs d [] []) ≤ n by unfold needJ at hn ⊢; simp only at hn ⊢; omega)
  have HL := Lib.hid hl
  clear hl hn
  clear hr h hx hkk hk hnd hd8 hm3
  go_enter Tryz.func34, Tryz.ntmps34
  go_wp2_with fail
  refine (c_rd_kind L E b p m flt0 _ (by omega) (HRd.out.below bel)).mono ?_
  rintro e w1 ⟨rfl, hb1⟩
  rw [HK.out]
  have HB1 := Lib.hid (bel : Below w.heap.size w w1)
  have HT1 := Lib.hid ((hb1.block w.heap.size (by simp)).trans (heap_at (w := w) (o := .cells #[.int .i64 0, .bool false, .int .i64 0, .string ⟨#[]⟩, .slice none 0 0, .slice none 0 0] 27) rfl))
  have HR1 := Lib.hid (HRd.out.below HB1.out)
  have hl1 := row_lt HT1.out
  obtain ⟨A, c, hbx, -, -⟩ := HR1.out
  unfold rdC at hbx
  obtain ⟨a0, a1, a2, a3, a4, a5, a6, af⟩ := row7r hbx
  have l1 := row_lt hbx
  have a4' : w1.cell? ⟨b, 4, none⟩ = some (.int .i64 0) := a4
  clear hbx hb1 a4
  go_upto_region 11 with fail
  obtain ⟨w2, hw2⟩ : ∃ W, W = w1.setCell ⟨b, 3, none⟩ (.int .i64 ((m : Int) + 1)) := ⟨_, rfl⟩
  have hA2 : Aside (fun q => q = b) w1 w2 := by rw [hw2]; exact aside_set rfl (Aside.refl _ _)
  have hR2 : RdAt L E b p (m + 1) flt0 w2 := RdAt.poke HR1.out hA2 (fun A c h => by rw [hw2]; unfold rdC at h ⊢; exact set7_3 h)
  rw [← hw2]
  have HR2 := Lib.hid hR2
  have HA2 := Lib.hid hA2
  have HT2 := Lib.hid ((hA2.block _ hl1 hnb).trans HT1.out)
  have hl2 := row_lt HT2.out
  clear a0 a1 a2 a3 a4' a5 a6 af hR2 hA2 hw2
  obtain ⟨A2, c2, hbx, hrow, -⟩ := HR2.out
  unfold rdC at hbx
  obtain ⟨a0, a1, a2, a3, a4, a5, a6, af⟩ := row7r hbx
  have l2 := row_lt hbx
  obtain ⟨g, y, rfl, hy, hlc, lg, s0, s1, s2, s3⟩ := sign_row (p := p) hrow hpl
  obtain rfl : y = x := Option.some.inj (hy.symm.trans HX.out)
  clear hbx hrow hy
  go_cut [6] from 49 to 58 (fun s6 wx => s6 = .pointer (some ⟨w2.heap.size, 0, none⟩) ∧ wx.heap[w2.heap.size]? = some (.cells #[.int .i64 y.kind, .string y.text, .int .i64 y.num, .int .i64 y.at'] 54 (0, 0)) ∧ Below w2.heap.size w2 wx)
  case first =>
    go_region_law (fail)
    all_goals
      go_wp2_with fail
      go_meet
      exact ⟨rfl, heap_at (by simp), bel⟩
  case rest =>
    obtain ⟨rfl, hXr, hBc⟩ := hcut
    have HXr := Lib.hid hXr
    have HBc := Lib.hid hBc
    have HRc := Lib.hid (HR2.out.below hBc)
    have HTc := Lib.hid ((hBc.block _ hl2).trans HT2.out)
    have hl3 := row_lt HTc.out
    have hl3x := row_lt hXr
    have hnx3 : ¬ w2.heap.size = b := by omega
    have hnxt : ¬ w2.heap.size = w.heap.size := by omega
    clear a0 a1 a2 a3 a4 a5 a6 af s0 s1 s2 s3 hXr hBc
    obtain ⟨A3, c3, hbx, -, -⟩ := HRc.out
    unfold rdC at hbx
    obtain ⟨a0, a1, a2, a3, a4, a5, a6, af⟩ := row7r hbx
    have l3 := row_lt hbx
    obtain ⟨y0, y1, y2, y3, yf⟩ := row4 HXr.out
    clear hbx
    go_upto_region 15 with fail
    obtain ⟨w3, hw3⟩ : ∃ W, W = wc.setCell ⟨b, 1, none⟩ (.int .i64 ((p : Int) + 1)) := ⟨_, rfl⟩
    have hA3 : Aside (fun q => q = b) wc w3 := by rw [hw3]; exact aside_set rfl (Aside.refl _ _)
    have hR3 : RdAt L E b (p + 1) (m + 1) flt0 w3 := RdAt.poke HRc.out hA3 (fun A c h => by rw [hw3]; unfold rdC at h ⊢; exact set7_1 h)
    rw [← hw3]
    have HR3 := Lib.hid hR3
    have HT3 := Lib.hid ((hA3.block _ (row_lt HTc.out) hnb).trans HTc.out)
    have HX3 := Lib.hid ((hA3.block _ (row_lt HXr.out) hnx3).trans HXr.out)
    have HAw := Lib.hid (show Aside (fun q => q = b ∨ w.heap.size ≤ q) w w3 from (Aside.of_below HB1.out).trans ((HA2.out.mono (fun q h => .inl h)).trans ((Aside.of_below HBc.out).trans ((Aside.refl _ wc).trans (hA3.mono (fun q h => .inl h))))))
    have hl4 := row_lt HT3.out
    have hl4x := row_lt HX3.out
    have hl4b := hR3.lt
    clear a0 a1 a2 a3 a4 a5 a6 af y0 y1 y2 y3 yf hR3 hA3 hw3
    obtain ⟨z0, z1, z2, z3, zf⟩ := row4 HX3.out
    obtain ⟨x0, x1, x2, x3, x4, x5, xf⟩ := row6 HT3.out
    go_wp2_with fail
    refine (HL.out d (p + 1) (m + 1) _ hd1 hdd hpp hmm HNe.out HR3.out).mono ?_
    intro e w5 hv
    rcases hq : pairsR L E n d (p + 1) (m + 1) with f | ⟨t', q, m'⟩
    · have HQ := Lib.hid (HR.out.trans hq)
      have hv' := ValE.isBad hq hv
      have HV := Lib.hid hv'
      obtain ⟨k5, f5, n5, t5, A45, n45, c45, A55, n55, c55, p5, m5, rfl, hR5, hp5, hA5⟩ := hv'
      have HT5 := Lib.hid ((hA5.block _ hl4 hnb).trans HT3.out)
      have hl5 := row_lt HT5.out
      clear x0 x1 x2 x3 x4 x5 xf z0 z1 z2 z3 zf hv hq hR5 hA5
      obtain ⟨x0, x1, x2, x3, x4, x5, xf⟩ := row6 HT5.out
      go_wp2_with fail
      exact bodyPost_ret (v := .agg #[.int .i64 k5, .bool f5, .int .i64 n5, .string t5, .slice A45 n45 c45, .slice A55 n55 c55]) (by simp only [results, Tryz.results34]; go_simp) rfl (ValE.bad HQ.out (BadT.close HV.out HAw.out (by repeat (first | (with_reducible exact Aside.refl _ _) | ((with_reducible refine aside_set ?_ ?_); (focus (simp; done))) | (with_reducible refine aside_alloc ?_))) hlb))
    · have HQ := Lib.hid (HR.out.trans hq)
      have hv' := ValE.isGood hq hv
      have HV := Lib.hid hv'
      obtain ⟨cs, rfl, hO5, hR5, hA5⟩ := hv'
      obtain ⟨A4, c4, A5, c5, rfl, -⟩ := hO5.flat
      have HT5 := Lib.hid ((hA5.block _ hl4 hnb).trans HT3.out)
      have hl5 := row_lt HT5.out
      clear x0 x1 x2 x3 x4 x5 xf z0 z1 z2 z3 zf hv hq hR5 hA5 hO5
      obtain ⟨x0, x1, x2, x3, x4, x5, xf⟩ := row6 HT5.out
      go_wp2_with fail
      exact bodyPost_ret (v := .agg #[.int .i64 t'.kind, .bool t'.flag, .int .i64 t'.num, .string t'.text, .slice A4 t'.keys.length c4, .slice A5 t'.kids.length c5]) (by simp only [results, Tryz.results34]; go_simp) rfl (ValE.good HQ.out (GoodT.close HV.out HAw.out (by repeat (first | (with_reducible exact Aside.refl _ _) | ((with_reducible refine aside_set ?_ ?_); (focus (simp; done))) | (with_reducible refine aside_alloc ?_))) (by omega) hlb))
theorem of_valI (L : List SignD) (E : Int) (b n : Nat) (hL : SgOk L) (hl : T_listI L E b n) (hp : T_pairsI L E b n) : T_valI L E b (n + 1) := by
  intro d p m w hd1 hd9 hpl hm hn h
  by_cases hk : kindAt L p = 1 ∨ kindAt L p = 3 ∨ 7 ≤ kindAt L p
  · by_cases h8 : 8 < d
    · exact c_val_deep L E b n d p m w hL hpl h hk h8
    · by_cases h3 : 300 ≤ m
      · exact c_val_many L E b n d p m w hL hpl h hk h8 h3
      · rcases hx : L[p]? with _ | x
        · rw [kindAt_none hx] at hk
          omega
        · have hkx := kindAt_some hx
          have hb := hL.kind p x hx
          rw [hkx] at hk
          rcases (show x.kind = 1 ∨ x.kind = 3 ∨ x.kind = 7 ∨ x.kind = 8 ∨ x.kind = 9 ∨ x.kind = 10 ∨ x.kind = 11 by omega) with e | e | e | e | e | e | e
          · exact c_val_pairs L E b n d p m x w hL hx e h8 h3 h hd1 hn hp
          · exact c_val_list L E b n d p m x w hL hx e h8 h3 h hd1 hn hl
          · by_cases hs : 400 < x.text.size
            · exact c_val_wide L E b n d p m x w hL hx e h8 h3 h hs
            · exact c_val_text L E b n d p m x w hL hx e h8 h3 h hs
          · exact c_val_num L E b n d p m x w hL hx e h8 h3 h
          · exact c_val_true L E b n d p m x w hL hx e h8 h3 h
          · exact c_val_false L E b n d p m x w hL hx e h8 h3 h
          · exact c_val_null L E b n d p m x w hL hx e h8 h3 h
  · exact c_val_form L E b n d p m w hL hpl h hk
end Go.Proofs.YtffelpdefjkeaaaGreatDoor
