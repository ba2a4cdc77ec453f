/- Steps to FnCrossed. No conditions. -/
import Derived.Test.YtohcpifekcehjaaGreatDoorKfcr16
import Derived.Test.YtohcpifekcehjaaGreatDoorKfcr10
import Derived.Test.YtohcpifekcehjaaGreatDoorKfcr7
import Derived.Test.YtohcpifekcehjaaGreatDoorKfcr9
import Derived.Test.YtohcpifekcehjaaGreatDoorKfcr6
import Derived.Test.YtohcpifekcehjaaGreatDoorKfcr5
import Derived.Test.YtohcpifekcehjaaGreatDoorKfcr3
set_option maxHeartbeats 16000000
set_option maxRecDepth 20000
namespace Go.Proofs.YtohcpifekcehjaaGreatDoor
open Go.RowKit Go.Lib
def scA (s : ByteArray) : List Value := match scalB s with
 | none => [.int .i64 0, .bool false, .int .i64 0, .string ⟨#[]⟩, .slice none 0 0, .slice none 0 0]
 | some t => [.int .i64 t.kind, .bool t.flag, .int .i64 t.num, .string t.text, .slice none 0 0, .slice none 0 0]
def scF (f : Flt) (s : ByteArray) (a : Nat) : Flt := match scalB s with
 | none => failF f 4 a
 | some _ => f
theorem scA_tree (s : ByteArray) : TreeV (scA s) := by
 unfold scA;rcases scalB s with _ | t
 all_goals
  exact ⟨_, _, _, _, _, _, _, _, _, _, rfl⟩
theorem c_in_scalar (w0 : World) (b g N cap : Nat) (x : LineD) (L : List LineD) (m : Nat) (f : Flt) (s : ByteArray) (a : Nat) (w : World) (h0 : In0 w0 b g) (hw : Below w0.heap.size w0 w) (hs : s.size <= 1048576) (h : InAt 61 b g N cap (x :: L) m f w) :
  Calls Tryz.prog 105 #[.pointer (some ⟨b, 0, none⟩), .string s, .int .i64 a] w fun e w' => e = .returned (.agg (scA s).toArray) /\ InAt 61 b g N cap L m (scF f s a) w' /\ Aside (fun q => q = b) w w' := by
 have H := hid h;have hlb := h.lt.1;have hlg := h.lt.2;have HS := hid (fun (W : World) (hb : Below w.heap.size w W) => c_impl_ReadScalar s W hs (h0.cas.below (hw.trans (hb.mono hw.size))) (h0.tab.below (hw.trans (hb.mono hw.size))) (h0.err.below (hw.trans (hb.mono hw.size))))
 have hat : ∀ (W : World) (F : Flt), InAt 61 b g N cap (x :: L) m F W -> ∀ p : Nat, p + (x :: L).length = N -> InAt 61 b g N cap L m F (W.setCell ⟨b, 1, none⟩ (.int .i64 ((p : Int) + 1))) := fun W F hW p hp =>
  InAt.turn hW (aside_set rfl (Aside.refl _ _)) (.inr ⟨x, rfl⟩) (fun p1 p' h1 h2 hrow => by
   obtain rfl : p1 = p := by omega
   have e : ((p1 : Int) + 1) = ((p' : Nat) : Int) := by rw [List.length_cons] at h1; omega
   rw [e]
   exact set6p hrow)
 have HAt := hid hat;clear h hat h0 hw
 have hsc : (∃ t, scalB s = some t) ∨ scalB s = none := by
  rcases scalB s with _ | t
  ·exact .inr rfl
  ·exact .inl ⟨t, rfl⟩
 rcases hsc with ⟨t, ht⟩ | ht
 ·have HA : Hid (scA s = [.int .i64 t.kind, .bool t.flag, .int .i64 t.num, .string t.text, .slice none 0 0, .slice none 0 0]) := hid (by unfold scA; rw [ht])
  have HF : Hid (scF f s a = f) := hid (by unfold scF; rw [ht])
  have hs1 : ∀ (W : World), Below w.heap.size w W -> Calls Tryz.prog 186 #[.string s] W fun e w' => e = .returned (.tuple #[.agg #[.int .i64 t.kind, .bool t.flag, .int .i64 t.num, .string t.text, .slice none 0 0, .slice none 0 0], .bool true]) /\ Below W.heap.size W w' := fun W hb => by
   have h := HS.out W hb;rw [ht] at h;exact h
  have HS1 := hid hs1;rw [HA.out, HF.out];obtain ⟨tk, tf, tn, tt, k1, k2⟩ := t;simp only at HS1 HA ⊢;clear ht hs1 HS HA HF;go_enter Tryz.func105, Tryz.ntmps105
  go_wp2_with fail
  refine (HS1.out _ bel).mono ?_;rintro e w1 ⟨rfl, hb1⟩;have HT1 := hid ((hb1.block w.heap.size (by simp)).trans (heap_at (w := w) (o := .cells #[.int .i64 0, .bool false, .int .i64 0, .string ⟨#[]⟩, .slice none 0 0, .slice none 0 0] 34) rfl));have HB1 := hid (bel : Below w.heap.size w w1);have HR1 := hid (H.out.below HB1.out);obtain ⟨x0, x1, x2, x3, x4, x5, xf⟩ := row6 HT1.out;have l1 := row_lt HT1.out
  obtain ⟨p, hbx⟩ := HR1.out.open;have HPos := hid hbx.pos;obtain ⟨a0, a1, a2, a3, a4, a5, af⟩ := row6 hbx.row;have lb := row_lt hbx.row;have hsm := hbx.small;have hpl := hbx.pos;have hp2 : p <= 20001 := by omega
  have hnb : ¬ w.heap.size = b := by omega
  clear hb1 hbx hpl hsm;go_wp2_with fail
  have hR := HAt.out w1 f HR1.out p HPos.out;have hA : Aside (fun q => q = b) w (w1.setCell ⟨b, 1, none⟩ (.int .i64 ((p : Int) + 1))) := (Aside.of_below HB1.out).trans (aside_set rfl (Aside.refl _ _));have HR := hid hR;have HA := hid hA;clear hR hA;exact bodyPost_ret (v := .agg #[.int .i64 tk, .bool tf, .int .i64 tn, .string tt, .slice none 0 0, .slice none 0 0]) (by simp only [results, Tryz.results105]; go_simp) rfl ⟨rfl, HR.out.past (S := fun q => q = w.heap.size) asd (by omega) (by omega), HA.out.join (S' := fun q => q = w.heap.size) asd (fun q hq h => by omega)⟩
 ·have HA : Hid (scA s = [.int .i64 0, .bool false, .int .i64 0, .string ⟨#[]⟩, .slice none 0 0, .slice none 0 0]) := hid (by unfold scA; rw [ht])
  have HF : Hid (scF f s a = failF f 4 a) := hid (by unfold scF; rw [ht])
  have hs1 : ∀ (W : World), Below w.heap.size w W -> Calls Tryz.prog 186 #[.string s] W fun e w' => e = .returned (.tuple #[.agg #[.int .i64 0, .bool false, .int .i64 0, .string ⟨#[]⟩, .slice none 0 0, .slice none 0 0], .bool false]) /\ Below W.heap.size W w' := fun W hb => by
   have h := HS.out W hb;rw [ht] at h;exact h
  have HS1 := hid hs1;rw [HA.out, HF.out];clear ht hs1 HS HA HF;go_enter Tryz.func105, Tryz.ntmps105
  go_wp2_with fail
  refine (HS1.out _ bel).mono ?_;rintro e w1 ⟨rfl, hb1⟩;have HT1 := hid ((hb1.block w.heap.size (by simp)).trans (heap_at (w := w) (o := .cells #[.int .i64 0, .bool false, .int .i64 0, .string ⟨#[]⟩, .slice none 0 0, .slice none 0 0] 34) rfl));have HB1 := hid (bel : Below w.heap.size w w1);have HR1 := hid (H.out.below HB1.out);have l1 := row_lt HT1.out;have hnb : ¬ w.heap.size = b := by omega
  have hn1 : ¬ w1.heap.size = b := by omega
  clear hb1;go_wp2_with fail
  refine (c_in_fail b g N cap (x :: L) m f 4 a _ (HR1.out.below bel)).mono ?_;rintro e w2 ⟨rfl, hR2, hA2⟩;have HR2 := hid hR2;have HA2 := hid ((Aside.of_below (S := fun q => q = b) HB1.out).trans ((Aside.of_below (bel : Below w1.heap.size w1 _)).trans hA2));have HT2 := hid ((hA2.block _ (by simp; omega) hnb).trans ((Below.heap_alloc _ _ _ l1).trans HT1.out));have HU2 := hid ((hA2.block w1.heap.size (by simp) hn1).trans (heap_at (w := w1) (o := .cells #[.int .i64 0, .bool false, .int .i64 0, .string ⟨#[]⟩, .slice none 0 0, .slice none 0 0] 34) rfl))
  obtain ⟨x0, x1, x2, x3, x4, x5, xf⟩ := row6 HT2.out;have l2 := row_lt HT2.out;obtain ⟨y0, y1, y2, y3, y4, y5, yf⟩ := row6 HU2.out;have l3 := row_lt HU2.out;obtain ⟨p, hbx⟩ := HR2.out.open;have HPos := hid hbx.pos;obtain ⟨a0, a1, a2, a3, a4, a5, af⟩ := row6 hbx.row;have lb := row_lt hbx.row;have hsm := hbx.small;have hpl := hbx.pos;have hp2 : p <= 20001 := by omega
  have hn01 : ¬ w.heap.size = w1.heap.size := by omega
  clear hR2 hA2 hbx hpl hsm;go_wp2_with fail
  have hR := HAt.out w2 (failF f 4 a) HR2.out p HPos.out;have hA : Aside (fun q => q = b) w (w2.setCell ⟨b, 1, none⟩ (.int .i64 ((p : Int) + 1))) := HA2.out.trans (aside_set rfl (Aside.refl _ _));have HR := hid hR;have HA := hid hA;clear hR hA;exact bodyPost_ret (v := .agg #[.int .i64 0, .bool false, .int .i64 0, .string ⟨#[]⟩, .slice none 0 0, .slice none 0 0]) (by simp only [results, Tryz.results105]; go_simp) rfl ⟨rfl, HR.out.past (S := fun q => q = w.heap.size) asd (by omega) (by omega), HA.out.join (S' := fun q => q = w.heap.size) asd (fun q hq h => by omega)⟩
theorem OutI.close {ty : TypeId} {b g N cap nT : Nat} {r : ResI} {w w3 w5 wF : World} {e : Ending} (h : OutI ty b g N cap nT r w3 e w5) (hA : Aside (fun q => q = b ∨ q = g ∨ w.heap.size <= q) w w3) (hF : Aside (fun q => q = w.heap.size) w5 wF) (hlt : w.heap.size < w3.heap.size) (hb : b < w.heap.size) (hg : g < w.heap.size) : OutI ty b g N cap nT r w e wF := by
 obtain ⟨cs, L', m', f', h1, h2, h3, h4, h5, h6⟩ := h;refine ⟨cs, L', m', f', h1, h2, h3.past hF (fun q => by omega) (fun q => by omega), h4, Aside.low2 ((hA.join h5 (fun q hq _ => by omega)).join hF (fun q hq _ => .inr (.inr (by omega)))), ?_⟩;rcases r with f | ⟨t, L, m⟩
 ·exact h6
 ·obtain ⟨k1, k2, k3, k4⟩ := h6
  exact ⟨k1, k2, k3, k4.carry (fun x hx => hF.block x hx.2 (by omega)) (fun x hx => ⟨by omega, Nat.lt_of_lt_of_le hx.2 hF.size⟩)⟩
theorem InAt.next {ty : TypeId} {b g N cap p : Nat} {x : LineD} {L : List LineD} {m : Nat} {f : Flt} {w : World} (h : InAt ty b g N cap (x :: L) m f w) (hp : p + (x :: L).length = N) : InAt ty b g N cap L m f (w.setCell ⟨b, 1, none⟩ (.int .i64 ((p : Int) + 1))) :=
 InAt.turn h (aside_set rfl (Aside.refl _ _)) (.inr ⟨x, rfl⟩) (fun p1 p' h1 h2 hrow => by
  obtain rfl : p1 = p := by omega
  have e : ((p1 : Int) + 1) = ((p' : Nat) : Int) := by rw [List.length_cons] at h1; omega
  rw [e]
  exact set6p hrow)
theorem begin_or (d m a : Nat) : (beginF d m a = none /\ beginX d m a = flt0) ∨ ∃ f, beginF d m a = some f /\ beginX d m a = f /\ f.code ≠ 0 := by
 rcases h : beginF d m a with _ | f
 ·exact .inl ⟨rfl, by unfold beginX; rw [h]; rfl⟩
 ·exact .inr ⟨f, rfl, by unfold beginX; rw [h]; rfl, begin_code h⟩
theorem of_inBelow (w0 : World) (b g N cap n : Nat) (h0 : In0 w0 b g) (hv : T_vI w0 b g N cap n) : T_bI w0 b g N cap (n + 1) := by
 intro i d x r m w hd1 hd9 hm hok hn hw h;have hlb := h.lt.1;have hlg := h.lt.2;obtain ⟨p, hbx⟩ := h.open;have HPos := hid hbx.pos;obtain ⟨a0, a1, a2, a3, a4, a5, af⟩ := row6 hbx.row;have lb := row_lt hbx.row;obtain ⟨c0, c1, c2, cf⟩ := hbx.line x r rfl;have lg := hbx.lines;have hpN : (p : Int) < N := by have := hbx.pos; rw [List.length_cons] at this; omega
 have hp0 : (0 : Int) <= p := by omega
 have hcap := hbx.cap';have hgb := hbx.ne;have hN2 := hbx.small;have H := hid h;have H0 := hid h0;have HW := hid hw;have Hv := hid hv;have HOk := hid hok;have HN := hid hn;obtain ⟨res, hres⟩ : ∃ q, q = readK (n + 1) (.below i d x.at') r m := ⟨_, rfl⟩
 rw [<- hres];rw [readK_below] at hres;have HRes := hid hres;obtain ⟨nT, hnT⟩ : ∃ k, 10 - d = k + 1 := ⟨9 - d, by omega⟩
 rw [hnT];have HNT := hid hnT;clear hbx h h0 hw hv hok hn hres hnT;go_enter Tryz.func179, Tryz.ntmps179
 go_wp2_with fail
 refine wp_region_det 12 (by kernel_rfl) (by kernel_rfl) (by decide) ?_
 iterate 12 (apply Exists.intro; refine And.intro ?_ ?_; (focus (intro W hW; (try simp only [Act.put, List.setIfInBounds_toArray, List.set_cons_zero, List.set_cons_succ]); first | (exact wpList_skip rfl ⟨rfl, rfl, Below.refl _ _⟩) | (obtain ⟨hcW, hfW⟩ := bcell hW; have hsW := hW.size; (try simp at hsW); (try have hsW0 := lt_of_succ_le hsW); (try (have hsW1 := lt_pred hsW; (try (have hsW2 := lt_pred hsW1)))); go_wp2_with fail; exact ⟨rfl, rfl, bel⟩))))
 intro w1 hbw1
 (try simp only [Act.put, List.setIfInBounds_toArray, List.set_cons_zero, List.set_cons_succ])
 (try simp only [List.drop_succ_cons, List.drop_nil])
 have HB1 := hid (bel : Below w.heap.size w w1);have HT1 := hid ((hbw1.block w.heap.size (by simp)).trans (heap_at (w := w) (o := .cells #[.int .i64 0, .bool false, .int .i64 0, .string ⟨#[]⟩, .slice none 0 0, .slice none 0 0] 34) rfl));have HR1 := hid (H.out.below HB1.out);have l1 := row_lt HT1.out;clear hbw1 a0 a1 a2 a3 a4 a5 af c0 c1 c2 cf lb lg;obtain ⟨p1, hbx⟩ := HR1.out.open;obtain rfl : p1 = p := by have := HPos.out; have := hbx.pos; omega
 obtain ⟨a0, a1, a2, a3, a4, a5, af⟩ := row6 hbx.row;have lb := row_lt hbx.row;clear hbx;have hnb : ¬ w.heap.size = b := by omega
 go_upto_region 3 with fail
 obtain ⟨w2, hw2⟩ : ∃ W, W = w1.setCell ⟨b, 1, none⟩ (.int .i64 ((p1 : Int) + 1)) := ⟨_, rfl⟩
 have hR2 := HR1.out.next HPos.out;rw [<- hw2] at hR2 ⊢;have hA2 : Aside (fun q => q = b) w w2 := by rw [hw2]; exact (Aside.of_below HB1.out).trans (aside_set rfl (Aside.refl _ _))
 have HR2 := hid hR2;have HA2 := hid hA2;have hT2 : w2.heap[w.heap.size]? = w1.heap[w.heap.size]? := by rw [hw2]; exact Below.heap_setCell _ _ _ _ (fun e => hnb e)
 have HT2 := hid (hT2.trans HT1.out);have l2 := row_lt HT2.out;have HW2 := hid (H0.out.keep HW.out (hA2.mono (fun q hq => .inl hq)));clear a0 a1 a2 a3 a4 a5 af lb hR2 hA2 hw2 hT2;obtain ⟨p2, hbx⟩ := HR2.out.open;have hpp : p2 = p1 + 1 := by have := HPos.out; have := hbx.pos; simp only [List.length_cons] at *; omega
 obtain ⟨a0, a1, a2, a3, a4, a5, af⟩ := row6 hbx.row;have lb := row_lt hbx.row;have lg := hbx.lines;have hp20 : (0 : Int) <= p2 := by omega
 have hpos2 := hbx.pos;by_cases hbl : below? i r = true
 ·obtain ⟨y, r2, rfl⟩ : ∃ y r2, r = y :: r2 := by
   cases r with
   | nil => cases hbl
   | cons y r2 => exact ⟨y, r2, rfl⟩
  obtain ⟨c0, c1, c2, cf⟩ := hbx.line y r2 rfl;have hlt : i < y.ind := of_decide_eq_true hbl;have d1 : decide ((i : Int) < (y.ind : Int)) = true := decide_eq_true (by omega);have d4 : decide (i < y.ind) = true := decide_eq_true hlt;have hpN2 : (p2 : Int) < N := by rw [List.length_cons] at hpos2; omega
  have d2 : decide ((p2 : Int) < N) = true := decide_eq_true hpN2;have HF := hid (HRes.out.trans (if_pos hbl));have hn2 : needI (.value d) (y :: r2) <= n := by have := HN.out; unfold needI at this ⊢; simp only at this ⊢; omega
  have HN2 := hid hn2;clear hbx hbl hpos2 hlt hpp hn2;refine wp_region_det 25 (by kernel_rfl) (by kernel_rfl) (by decide) ?_
  iterate 25 (apply Exists.intro; refine And.intro ?_ ?_; (focus (intro W hW; (try simp only [Act.put, List.setIfInBounds_toArray, List.set_cons_zero, List.set_cons_succ]); first | (exact wpList_skip rfl ⟨rfl, rfl, Below.refl _ _⟩) | (obtain ⟨hcW, hfW⟩ := bcell hW; have hsW := hW.size; (try simp at hsW); (try have hsW0 := lt_of_succ_le hsW); (try (have hsW1 := lt_pred hsW; (try (have hsW2 := lt_pred hsW1)))); go_wp2_with fail; exact ⟨rfl, rfl, bel⟩))))
  intro w3 hbw3
  (try simp only [Act.put, List.setIfInBounds_toArray, List.set_cons_zero, List.set_cons_succ])
  (try simp only [List.drop_succ_cons, List.drop_nil])
  have HB3 := hid hbw3;have HT3 := hid ((hbw3.block _ l2).trans HT2.out);have HR3 := hid (HR2.out.below hbw3);have HW3 := hid (HW2.out.trans (hbw3.mono HW2.out.size));have l3 := row_lt HT3.out;clear hbw3 a0 a1 a2 a3 a4 a5 af c0 c1 c2 cf lb lg;go_wp2_with fail
  refine (Hv.out d y r2 m w3 hd1 hd9 hm HOk.out.tail HN2.out HW3.out HR3.out).mono ?_;intro e w5 hv5;obtain ⟨cs, L', m', f', rfl, ht, h5, h6, h7, h8⟩ := hv5;obtain ⟨u0, u1, u2, u3, U4, u4, u44, U5, u5, u55, rfl⟩ := ht
  have HV := hid (show OutI 61 b g N cap (nT + 1) res w3 (.returned (.agg #[.int .i64 u0, .bool u1, .int .i64 u2, .string u3, .slice U4 u4 u44, .slice U5 u5 u55])) w5 by
   rw [HF.out, <- HNT.out]
   exact ⟨_, L', m', f', rfl, ⟨u0, u1, u2, u3, U4, u4, u44, U5, u5, u55, rfl⟩, h5, h6, h7, h8⟩)
  have HT5 := hid ((h7.block _ l3 (by omega)).trans HT3.out);obtain ⟨x0, x1, x2, x3, x4, x5, xf⟩ := row6 HT5.out;have l5 := row_lt HT5.out;clear h5 h6 h7 h8;go_wp2_with fail
  exact bodyPost_ret (v := .agg #[.int .i64 u0, .bool u1, .int .i64 u2, .string u3, .slice U4 u4 u44, .slice U5 u5 u55]) (by simp only [results, Tryz.results179]; go_simp) rfl (HV.out.close ((HA2.out.trans (Aside.of_below HB3.out)).mono (fun q hq => .inl hq)) asd l3 hlb hlg)
 ·have HF := hid (HRes.out.trans (if_neg hbl))
  have hq : (decide ((p2 : Int) < N) = false /\ decide (p2 < N) = false) ∨ (decide ((p2 : Int) < N) = true /\ decide (p2 < N) = true /\ ∃ (k : Nat), w2.cell? ⟨g, p2 * 3, none⟩ = some (.int .i64 k) /\ decide ((i : Int) < (k : Int)) = false /\ decide (i < k) = false /\ (p2 : Int) < N /\ ∀ o, w2.frozen? ⟨g, o, none⟩ = false) := by
   rcases r with _ | ⟨y, r2⟩
   ·exact .inl ⟨decide_eq_false (by simp at hpos2; omega), decide_eq_false (by simp at hpos2; omega)⟩
   ·obtain ⟨c0, c1, c2, cf⟩ := hbx.line y r2 rfl
    rw [List.length_cons] at hpos2;refine .inr ⟨decide_eq_true (by omega), decide_eq_true (by omega), y.ind, c0, decide_eq_false (fun h => hbl ?_), decide_eq_false (fun h => hbl ?_), by omega, cf⟩ <;> exact decide_eq_true (by omega)
  clear hbx hbl hpos2 hpp;rcases hq with ⟨d2, d3⟩ | ⟨d2, d3, k, c0, d1, d4, hpN2, cf⟩
  all_goals
   refine wp_region_det 25 (by kernel_rfl) (by kernel_rfl) (by decide) ?_
   iterate 25 (apply Exists.intro; refine And.intro ?_ ?_; (focus (intro W hW; (try simp only [Act.put, List.setIfInBounds_toArray, List.set_cons_zero, List.set_cons_succ]); first | (exact wpList_skip rfl ⟨rfl, rfl, Below.refl _ _⟩) | (obtain ⟨hcW, hfW⟩ := bcell hW; have hsW := hW.size; (try simp at hsW); (try have hsW0 := lt_of_succ_le hsW); (try (have hsW1 := lt_pred hsW; (try (have hsW2 := lt_pred hsW1)))); go_wp2_with fail; exact ⟨rfl, rfl, bel⟩))))
   intro w3 hbw3
   (try simp only [Act.put, List.setIfInBounds_toArray, List.set_cons_zero, List.set_cons_succ])
   (try simp only [List.drop_succ_cons, List.drop_nil])
   have HB3 := hid hbw3;have HT3 := hid ((hbw3.block _ l2).trans HT2.out);have HR3 := hid (HR2.out.below hbw3);have l3 := row_lt HT3.out;clear hbw3 a0 a1 a2 a3 a4 a5 af lb lg;go_wp2_with fail
   refine (c_in_begin b g N cap r m d x.at' w3 HR3.out (by omega) (by omega)).mono ?_;rintro e w5 ⟨rfl, hR5, hA5⟩;have HT5 := hid ((hA5.block _ l3 (by omega)).trans HT3.out);obtain ⟨x0, x1, x2, x3, x4, x5, xf⟩ := row6 HT5.out;have l5 := row_lt HT5.out
   have HV := hid (show OutI 61 b g N cap (nT + 1) res w3 (.returned (.agg #[.int .i64 1, .bool false, .int .i64 0, .string ⟨#[]⟩, .slice none 0 0, .slice none 0 0])) w5 by
    rw [HF.out];rcases begin_or d m x.at' with ⟨e1, e2⟩ | ⟨f, e1, e2, e3⟩
    ·rw [e1]
     exact ⟨_, r, m + 1, beginX d m x.at', rfl, ⟨_, _, _, _, _, _, _, _, _, _, rfl⟩, hR5, HOk.out.tail, hA5.mono (fun q hq => .inl hq), e2, rfl, rfl, own_leaf (by unfold I64; decide) (by unfold I64; decide) (by decide)⟩
    ·rw [e1]
     exact ⟨_, r, m + 1, beginX d m x.at', rfl, ⟨_, _, _, _, _, _, _, _, _, _, rfl⟩, hR5, HOk.out.tail, hA5.mono (fun q hq => .inl hq), e2, e3⟩)
   clear hR5 hA5;go_wp2_with fail
   exact bodyPost_ret (v := .agg #[.int .i64 1, .bool false, .int .i64 0, .string ⟨#[]⟩, .slice none 0 0, .slice none 0 0]) (by simp only [results, Tryz.results179]; go_simp) rfl (HV.out.close ((HA2.out.trans (Aside.of_below HB3.out)).mono (fun q hq => .inl hq)) asd l3 hlb hlg)
theorem drew_heap (w : World) : w.drew.heap = w.heap := rfl
def LeafT (t : TreeD) : Prop := t.keys = [] /\ t.kids = [] /\ I64 t.kind /\ I64 t.num /\ t.text.size <= 9223372036854775807
theorem scal_leaf {s : ByteArray} {t : TreeD} (h : scalB s = some t) : LeafT t := by
 have z : I64 0 := by unfold I64; decide
 have e : (⟨#[]⟩ : ByteArray).size <= 9223372036854775807 := by decide
 unfold scalB at h;by_cases c1 : s = bs [91, 93]
 ·rw [if_pos c1] at h
  cases h
  exact ⟨rfl, rfl, (show I64 5 from by unfold I64; decide), z, e⟩
 rw [if_neg c1] at h;by_cases c2 : s = bs [123, 125]
 ·rw [if_pos c2] at h
  cases h
  exact ⟨rfl, rfl, (show I64 6 from by unfold I64; decide), z, e⟩
 rw [if_neg c2] at h;by_cases c3 : s = bs [110, 117, 108, 108] ∨ s = bs [126]
 ·rw [if_pos c3] at h
  cases h
  exact ⟨rfl, rfl, (show I64 1 from by unfold I64; decide), z, e⟩
 rw [if_neg c3] at h;by_cases c4 : s = bs [116, 114, 117, 101]
 ·rw [if_pos c4] at h
  cases h
  exact ⟨rfl, rfl, (show I64 2 from by unfold I64; decide), z, e⟩
 rw [if_neg c4] at h;by_cases c5 : s = bs [102, 97, 108, 115, 101]
 ·rw [if_pos c5] at h
  cases h
  exact ⟨rfl, rfl, (show I64 2 from by unfold I64; decide), z, e⟩
 rw [if_neg c5] at h;by_cases c6 : 0 < s.size /\ byteI s 0 = 34
 ·rw [if_pos c6] at h
  by_cases c7 : (quotB s 0).2 = s.size /\ (quotB s 0).1.size <= 400
  ·rw [if_pos c7] at h
   cases h
   exact ⟨rfl, rfl, (show I64 4 from by unfold I64; decide), z, by have := c7.2; unfold tText; simp only; omega⟩
  ·rw [if_neg c7] at h; cases h
 rw [if_neg c6] at h;by_cases c8 : (wholeB s 0).2 = s.size /\ 0 < (wholeB s 0).2
 ·rw [if_pos c8] at h
  cases h
  exact ⟨rfl, rfl, (show I64 3 from by unfold I64; decide), whole_i64 s 0, e⟩
 rw [if_neg c8] at h;by_cases c9 : plainB s = true
 ·rw [if_pos c9] at h
  cases h
  have h1 := plain_str c9;unfold strB at h1;rw [Bool.and_eq_true, decide_eq_true_eq] at h1;exact ⟨rfl, rfl, (show I64 4 from by unfold I64; decide), z, by have := h1.1; unfold tText; simp only; omega⟩
 ·rw [if_neg c9] at h; cases h
theorem scal_own {s : ByteArray} {t : TreeD} (h : scalB s = some t) {n : Nat} {S : Nat -> Prop} {w : World} : (t.keys = [] /\ t.kids = []) /\ OwnT (n + 1) S w t [.int .i64 t.kind, .bool t.flag, .int .i64 t.num, .string t.text, .slice none 0 0, .slice none 0 0] := by
 obtain ⟨h1, h2, h3, h4, h5⟩ := scal_leaf h;obtain ⟨k, f, nu, tx, ks, kd⟩ := t;obtain rfl : ks = [] := h1;obtain rfl : kd = [] := h2;exact ⟨⟨rfl, rfl⟩, own_leaf h3 h4 h5⟩
theorem of_inValue (w0 : World) (b g N cap n : Nat) (h0 : In0 w0 b g) (hl : T_lI w0 b g N cap n) (hp : T_pI w0 b g N cap n) : T_vI w0 b g N cap (n + 1) := by
 intro d x r m w hd1 hd9 hm hok hn hw h;have hlb := h.lt.1;have hlg := h.lt.2;obtain ⟨p, hbx⟩ := h.open;obtain ⟨a0, a1, a2, a3, a4, a5, af⟩ := row6 hbx.row;have lb := row_lt hbx.row;obtain ⟨c0, c1, c2, cf⟩ := hbx.line x r rfl;have lg := hbx.lines;have hpN : (p : Int) < N := by have := hbx.pos; rw [List.length_cons] at this; omega
 have hp0 : (0 : Int) <= p := by omega
 have hcap := hbx.cap';have hgb := hbx.ne;have hN2 := hbx.small;have hxo := hok.head;have hxz : x.text.size <= 20000 := by have := hxo.1; omega
 have H := hid h;have H0 := hid h0;have HW := hid hw;have Hl := hid hl;have Hp := hid hp;have HOk := hid hok;have HN := hid hn;obtain ⟨res, hres⟩ : ∃ q, q = readK (n + 1) (.value d) (x :: r) m := ⟨_, rfl⟩
 rw [<- hres];rw [readK_value] at hres;have HRes := hid hres;obtain ⟨nT, hnT⟩ : ∃ k, 10 - d = k + 1 := ⟨9 - d, by omega⟩
 rw [hnT];have HNT := hid hnT;obtain ⟨xi, xt, xa⟩ := x;simp only at c0 c1 c2 hxz;clear hbx h h0 hw hl hp hok hn hres hnT hxo;go_enter Tryz.func51, Tryz.ntmps51
 go_upto_region 1 with fail
 go_cut [5] from 12 to 21 (fun s5 wx => s5 = .pointer (some ⟨w.heap.size + 1, 0, none⟩) /\ wx.heap[w.heap.size + 1]? = some (.cells #[.int .i64 (xi : Nat), .string xt, .int .i64 (xa : Nat)] 59 (0, 0)) /\ wx.heap[w.heap.size]? = some (.cells #[.int .i64 0, .bool false, .int .i64 0, .string ⟨#[]⟩, .slice none 0 0, .slice none 0 0] 34 (0, 0)) /\ Below w.heap.size w wx)
 case first =>
  go_region_law (fail)
  all_goals
   (try go_wp2_with fail)
   go_meet
   exact ⟨rfl, by rw [drew_heap]; exact heap_at (by simp), by rw [drew_heap]; exact (Below.heap_alloc _ _ _ (by simp)).trans (heap_at rfl), bel⟩
 case rest =>
  obtain ⟨rfl, hx1, ht1, hb1⟩ := hcut;have HX1 := hid hx1;have HT1 := hid ht1;have HB1 := hid hb1;have HR1 := hid (H.out.below hb1);obtain ⟨y0, y1, y2, yf⟩ := row3 hx1;have ly := row_lt hx1;have lz := row_lt ht1;clear hx1 ht1 hb1 a0 a1 a2 a3 a4 a5 af c0 c1 c2 cf lb lg;go_wp2_with fail
  refine (c_in_begin b g N cap _ m d xa wc HR1.out (by omega) (by omega)).mono ?_;rintro e w2 ⟨rfl, hR2, hA2⟩;have hX2 := (hA2.block _ ly (by omega)).trans HX1.out;have hT2 := (hA2.block _ lz (by omega)).trans HT1.out;have HR2 := hid hR2;have HX2 := hid hX2;have HT2 := hid hT2;have HA2 := hid (show Aside (fun q => q = b ∨ w.heap.size <= q) w w2 from (Aside.of_below HB1.out).trans (hA2.mono (fun q hq => .inl hq)))
  have HW2 := hid (H0.out.keepW HW.out (HA2.out.mono (fun q hq => hq.elim .inl (fun hq => .inr (.inr hq)))));clear hR2 hA2 hX2 hT2 y0 y1 y2 yf ly lz;obtain ⟨y0, y1, y2, yf⟩ := row3 HX2.out;obtain ⟨z0, z1, z2, z3, z4, z5, zf⟩ := row6 HT2.out;have ly := row_lt HX2.out;have lz := row_lt HT2.out;obtain ⟨p2, hbx⟩ := HR2.out.open;obtain ⟨a0, a1, a2, a3, a4, a5, af⟩ := row6 hbx.row;have lb := row_lt hbx.row
  clear hbx;rcases begin_or d m xa with ⟨e1, e2⟩ | ⟨f, e1, e2, e3⟩
  rotate_left
  ·have HF : Hid (res = .bad f) := hid (by rw [HRes.out, e1])
   have HE := hid (And.intro e2 e3);rw [e2] at a3 a4 a5;have d1 : (f.code != 0) = true := bne_iff_ne.2 e3;have d2 : (f.code == 0) = false := beq_eq_false_iff_ne.2 e3;clear e1 e2 e3;go_wp2_with fail
   exact bodyPost_ret (v := .agg #[.int .i64 0, .bool false, .int .i64 0, .string ⟨#[]⟩, .slice none 0 0, .slice none 0 0]) (by simp only [results, Tryz.results51]; go_simp) rfl ⟨_, _, _, _, rfl, ⟨_, _, _, _, _, _, _, _, _, _, rfl⟩, HR2.out.past (S := fun q => q = w.heap.size) asd (by omega) (by omega), HOk.out, Aside.low2 ((HA2.out.mono (fun q hq => hq.elim .inl (fun hq => .inr (.inr hq)))).join (S' := fun q => q = w.heap.size) asd (fun q hq _ => .inr (.inr (by omega)))), by rw [HF.out]; exact HE.out⟩
  have hd8 := (begin_none e1).1;have hm3 := (begin_none e1).2
  have HRs := hid (show res = (if (itemB xt).isSome then readK n (.list xi d []) (⟨xi, xt, xa⟩ :: r) (m + 1)
    else if (keyB xt).isSome then readK n (.pairs xi d [] []) (⟨xi, xt, xa⟩ :: r) (m + 1)
    else match scalB xt with
     | some t => .good t r (m + 1)
     | none => .bad (fltA 4 xa)) by rw [HRes.out, e1]; rfl)
  have hR2' := HR2.out;rw [e2] at a3 a4 a5 hR2';have HR2 := hid hR2';have a3' : w2.cell? ⟨b, 3, none⟩ = some (.int .i64 0) := a3;clear e1 e2 hR2' a3 HRes;rcases hit : itemB xt with _ | ⟨rest, kk⟩
  rotate_left
  ·have HF : Hid (res = readK n (.list xi d []) (⟨xi, xt, xa⟩ :: r) (m + 1)) := hid (by rw [HRs.out, hit]; rfl)
   have hi1 : Calls Tryz.prog 101 #[.string xt] w2 fun e w' => e = .returned (.tuple #[.string rest, .int .i64 kk, .bool true]) /\ w2 = w' := by
    have h := c_impl_ItemOf xt w2 (by omega);rw [hit] at h;exact h
   have HI1 := hid hi1;have HL1 := hid (Hl.out xi d _ (m + 1) w2 hd1 hd8 (by omega) HOk.out (by have := HN.out; unfold needI at this ⊢; simp only at this ⊢; omega) HW2.out HR2.out);clear hit hi1;go_wp2_with fail
   refine HI1.out.mono ?_;rintro e w3 ⟨rfl, rfl⟩;go_wp2_with fail
   refine HL1.out.mono ?_;intro e w5 hv5;obtain ⟨cs, L', m', f', rfl, ht, h5, h6, h7, h8⟩ := hv5;obtain ⟨u0, u1, u2, u3, U4, u4, u44, U5, u5, u55, rfl⟩ := ht
   have HV := hid (show OutI 61 b g N cap (nT + 1) res w2 (.returned (.agg #[.int .i64 u0, .bool u1, .int .i64 u2, .string u3, .slice U4 u4 u44, .slice U5 u5 u55])) w5 by
    rw [HF.out, <- HNT.out]
    exact ⟨_, L', m', f', rfl, ⟨u0, u1, u2, u3, U4, u4, u44, U5, u5, u55, rfl⟩, h5, h6, h7, h8⟩)
   have HT5 := hid ((h7.block _ lz (by omega)).trans HT2.out);obtain ⟨z0, z1, z2, z3, z4, z5, zf⟩ := row6 HT5.out;have l5 := row_lt HT5.out;clear h5 h6 h7 h8;go_wp2_with fail
   exact bodyPost_ret (v := .agg #[.int .i64 u0, .bool u1, .int .i64 u2, .string u3, .slice U4 u4 u44, .slice U5 u5 u55]) (by simp only [results, Tryz.results51]; go_simp) rfl (HV.out.close ((HA2.out.mono (fun q hq => hq.elim .inl (fun hq => .inr (.inr hq))))) asd lz hlb hlg)
  have hi1 : Calls Tryz.prog 101 #[.string xt] w2 fun e w' => e = .returned (.tuple #[.string ⟨#[]⟩, .int .i64 0, .bool false]) /\ w2 = w' := by
   have h := c_impl_ItemOf xt w2 (by omega);rw [hit] at h;exact h
  have HI1 := hid hi1;have HK := hid (c_impl_KeyOf xt w2 (by omega) (H0.out.cas.below HW2.out) (H0.out.tab.below HW2.out));rcases hky : keyB xt with _ | ⟨key, rest⟩
  rotate_left
  ·have HF : Hid (res = readK n (.pairs xi d [] []) (⟨xi, xt, xa⟩ :: r) (m + 1)) := hid (by rw [HRs.out, hit, hky]; rfl)
   have hk1 : Calls Tryz.prog 103 #[.string xt] w2 fun e w' => e = .returned (.tuple #[.string key, .string rest, .bool true]) /\ Below w2.heap.size w2 w' := by
    have h := HK.out;rw [hky] at h;exact h
   have HK1 := hid hk1;clear hit hi1 hky hk1;go_wp2_with fail
   refine HI1.out.mono ?_;rintro e w3 ⟨rfl, rfl⟩;go_wp2_with fail
   refine HK1.out.mono ?_;rintro e w3 ⟨rfl, hb3⟩;have HX3 := hid ((hb3.block _ ly).trans HX2.out);have HT3 := hid ((hb3.block _ lz).trans HT2.out);have HR3 := hid (HR2.out.below hb3);have HA3 := hid (HA2.out.trans (Aside.of_below hb3));have HW3 := hid (HW2.out.trans (hb3.mono HW2.out.size));clear hb3 y0 y1 y2 yf z0 z1 z2 z3 z4 z5 zf a0 a1 a2 a3' a4 a5 af;obtain ⟨y0, y1, y2, yf⟩ := row3 HX3.out
   have ly3 := row_lt HX3.out;have lz3 := row_lt HT3.out;have HP1 := hid (Hp.out xi d _ (m + 1) w3 hd1 hd8 (by omega) HOk.out (by have := HN.out; unfold needI at this ⊢; simp only at this ⊢; omega) HW3.out HR3.out);go_wp2_with fail
   refine HP1.out.mono ?_;intro e w5 hv5;obtain ⟨cs, L', m', f', rfl, ht, h5, h6, h7, h8⟩ := hv5;obtain ⟨u0, u1, u2, u3, U4, u4, u44, U5, u5, u55, rfl⟩ := ht
   have HV := hid (show OutI 61 b g N cap (nT + 1) res w3 (.returned (.agg #[.int .i64 u0, .bool u1, .int .i64 u2, .string u3, .slice U4 u4 u44, .slice U5 u5 u55])) w5 by
    rw [HF.out, <- HNT.out]
    exact ⟨_, L', m', f', rfl, ⟨u0, u1, u2, u3, U4, u4, u44, U5, u5, u55, rfl⟩, h5, h6, h7, h8⟩)
   have HT5 := hid ((h7.block _ lz3 (by omega)).trans HT3.out);obtain ⟨z0, z1, z2, z3, z4, z5, zf⟩ := row6 HT5.out;have l5 := row_lt HT5.out;clear h5 h6 h7 h8;go_wp2_with fail
   exact bodyPost_ret (v := .agg #[.int .i64 u0, .bool u1, .int .i64 u2, .string u3, .slice U4 u4 u44, .slice U5 u5 u55]) (by simp only [results, Tryz.results51]; go_simp) rfl (HV.out.close ((HA3.out.mono (fun q hq => hq.elim .inl (fun hq => .inr (.inr hq))))) asd lz3 hlb hlg)
  have hk1 : Calls Tryz.prog 103 #[.string xt] w2 fun e w' => e = .returned (.tuple #[.string ⟨#[]⟩, .string ⟨#[]⟩, .bool false]) /\ Below w2.heap.size w2 w' := by
   have h := HK.out;rw [hky] at h;exact h
  have HK1 := hid hk1
  have HF : Hid (res = (match scalB xt with
     | some t => .good t r (m + 1)
     | none => .bad (fltA 4 xa))) := hid (by rw [HRs.out, hit, hky]; rfl)
  clear hit hi1 hky hk1;go_wp2_with fail
  refine HI1.out.mono ?_;rintro e w3 ⟨rfl, rfl⟩;go_wp2_with fail
  refine HK1.out.mono ?_;rintro e w3 ⟨rfl, hb3⟩;have HX3 := hid ((hb3.block _ ly).trans HX2.out);have HT3 := hid ((hb3.block _ lz).trans HT2.out);have HR3 := hid (HR2.out.below hb3);have HA3 := hid (HA2.out.trans (Aside.of_below hb3));have HW3 := hid (HW2.out.trans (hb3.mono HW2.out.size));clear hb3 y0 y1 y2 yf z0 z1 z2 z3 z4 z5 zf a0 a1 a2 a3' a4 a5 af;obtain ⟨y0, y1, y2, yf⟩ := row3 HX3.out
  have ly3 := row_lt HX3.out;have lz3 := row_lt HT3.out;go_wp2_with fail
  refine (c_in_scalar w0 b g N cap _ r (m + 1) flt0 xt xa w3 H0.out HW3.out (by omega) HR3.out).mono ?_;rintro e w5 ⟨rfl, hR5, hA5⟩;obtain ⟨u0, u1, u2, u3, U4, u4, u44, U5, u5, u55, hsc⟩ := scA_tree xt
  have HV := hid (show OutI 61 b g N cap (nT + 1) res w3 (.returned (.agg #[.int .i64 u0, .bool u1, .int .i64 u2, .string u3, .slice U4 u4 u44, .slice U5 u5 u55])) w5 by
   refine ⟨_, r, m + 1, scF flt0 xt xa, rfl, ⟨u0, u1, u2, u3, U4, u4, u44, U5, u5, u55, rfl⟩, hR5, HOk.out.tail, hA5.mono (fun q hq => .inl hq), ?_⟩;rw [HF.out];unfold scA at hsc;unfold scF;rcases hs : scalB xt with _ | t
   ·exact ⟨if_pos rfl, by show (4 : Int) ≠ 0; decide⟩
   ·rw [hs] at hsc
    refine ⟨rfl, rfl, rfl, ?_⟩;obtain ⟨k1, k2⟩ := scal_own hs (n := nT) (S := fun x => w3.heap.size <= x /\ x < w5.heap.size) (w := w5);rw [<- hsc]
    exact k2)
  rw [hsc];have HT5 := hid ((hA5.block _ lz3 (by omega)).trans HT3.out);obtain ⟨z0, z1, z2, z3, z4, z5, zf⟩ := row6 HT5.out;have l5 := row_lt HT5.out;clear hR5 hA5 hsc;go_wp2_with fail
  exact bodyPost_ret (v := .agg #[.int .i64 u0, .bool u1, .int .i64 u2, .string u3, .slice U4 u4 u44, .slice U5 u5 u55]) (by simp only [results, Tryz.results51]; go_simp) rfl (HV.out.close ((HA3.out.mono (fun q hq => hq.elim .inl (fun hq => .inr (.inr hq))))) asd lz3 hlb hlg)
theorem map_bad {ty : TypeId} {b g N cap nT : Nat} {w wx wF : World} {r : ResI} {L : List LineD} {m : Nat} {f : Flt} {A A' : Option Addr} {n c n' c' : Nat}
  (hb : b < w.heap.size) (hg : g < w.heap.size) (hL : LBoxI b g 6 w wx (.slice A n c) (.slice A' n' c')) (hR : InAt ty b g N cap L m f wx) (hok : InOk L) (h1 : f.code ≠ 0) (h2 : r = .bad f) (hF : Aside (fun q => q = w.heap.size) wx wF) :
  OutI ty b g N cap (nT + 1) r w (.returned (.agg #[.int .i64 6, .bool false, .int .i64 0, .string ⟨#[]⟩, .slice A n c, .slice A' n' c'])) wF := by
 subst h2;exact ⟨_, L, m, f, rfl, ⟨_, _, _, _, _, _, _, _, _, _, rfl⟩, hR.past hF (fun q => by omega) (fun q => by omega), hok, Aside.low2 (hL.aside.join hF (fun q hq _ => .inr (.inr (by omega)))), rfl, h1⟩
theorem map_good {ty : TypeId} {b g N cap nT : Nat} {w wx wF : World} {r : ResI} {L : List LineD} {m : Nat} {A A' : Option Addr} {n c n' c' : Nat} {ks : List ByteArray} {acc : List TreeD} {ess : List (List Value)} {F : Nat -> Nat -> Prop}
  (hb : b < w.heap.size) (hg : g < w.heap.size) (hL : LBoxI b g 6 w wx (.slice A n c) (.slice A' n' c')) (hM : MapG nT (w.heap.size + 2) wx.heap.size wx ks acc (.slice A n c) (.slice A' n' c') ess F) (hR : InAt ty b g N cap L m flt0 wx) (hok : InOk L) (h2 : r = .good (tMap ks acc) L m) (hF : Aside (fun q => q = w.heap.size) wx wF) :
  OutI ty b g N cap (nT + 1) r w (.returned (.agg #[.int .i64 6, .bool false, .int .i64 0, .string ⟨#[]⟩, .slice A n c, .slice A' n' c'])) wF := by
 subst h2
 exact ⟨_, L, m, flt0, rfl, ⟨_, _, _, _, _, _, _, _, _, _, rfl⟩, hR.past hF (fun q => by omega) (fun q => by omega), hok, Aside.low2 (hL.aside.join hF (fun q hq _ => .inr (.inr (by omega)))), rfl, rfl, rfl,
  hM.tree (fun q h1 h2 => hF.block q h2 (by omega)) (fun q h1 h2 => ⟨by omega, Nat.lt_of_lt_of_le h2 hF.size⟩)⟩
def PairsI (ty : TypeId) (b g N cap i n d nT : Nat) (r : ResI) (w wx : World) : Prop :=
 ∃ (KA : Option Addr) (kn kc : Nat) (VA : Option Addr) (vn vc : Nat) (L : List LineD) (m : Nat) (f : Flt), LBoxI b g 6 w wx (.slice KA kn kc) (.slice VA vn vc) /\ InAt ty b g N cap L m f wx /\ InOk L /\
  ((∃ (ks : List ByteArray) (acc : List TreeD) (ess : List (List Value)) (F : Nat -> Nat -> Prop) (k : Nat), MapG nT (w.heap.size + 2) wx.heap.size wx ks acc (.slice KA kn kc) (.slice VA vn vc) ess F /\ f = flt0 /\ m <= 300 /\ ks.length <= m /\ acc.length = ks.length /\ SortK ks /\ needI (.pairs i d ks acc) L <= k /\ k <= n /\ r = readK k (.pairs i d ks acc) L m) ∨
   (f.code ≠ 0 /\ r = .bad f))
theorem keyV_form (o : Option (ByteArray × ByteArray)) : ∃ a c q, keyV o = .tuple #[.string a, .string c, .bool q] /\ q = o.isSome /\ ∀ k r, o = some (k, r) -> a = k /\ c = r := by
 rcases o with _ | ⟨k, r⟩
 ·exact ⟨_, _, _, rfl, rfl, fun _ _ h => by cases h⟩
 ·exact ⟨_, _, _, rfl, rfl, fun _ _ h => by cases h; exact ⟨rfl, rfl⟩⟩
theorem itemV_form (o : Option (ByteArray × Nat)) : ∃ (a : ByteArray) (c : Nat) (q : Bool), itemV o = .tuple #[.string a, .int .i64 c, .bool q] /\ q = o.isSome := by
 rcases o with _ | ⟨k, r⟩
 ·exact ⟨_, 0, _, rfl, rfl⟩
 ·exact ⟨_, _, _, rfl, rfl⟩
theorem key_le {s key rest : ByteArray} (h : keyB s = some (key, rest)) (hs : s.size <= 20000) : key.size <= 1048576 /\ rest.size <= 20000 := by
 unfold keyB at h;by_cases c1 : 0 < s.size /\ byteI s 0 = 34
 ·rw [if_pos c1] at h
  by_cases c2 : 0 <= (quotB s 0).2 /\ endsB s (quotB s 0).2.toNat = true
  ·rw [if_pos c2] at h
   cases h
   refine ⟨?_, by have := tail_le s ((quotB s 0).2.toNat + 1); omega⟩;unfold quotB;rw [if_pos c1.1, if_pos c1.2];have := quotR_size s (s.size - (0 + 1)) (0 + 1) [];unfold quotG;simp at this ⊢;omega
  ·rw [if_neg c2] at h; cases h
 ·rw [if_neg c1] at h
  rcases hf : findE s s.size 0 with _ | i
  ·rw [hf] at h; cases h
  ·rw [hf] at h
   simp only at h;by_cases c3 : plainB (bs (s.data.toList.take i)) = true
   ·rw [if_pos c3] at h
    cases h
    refine ⟨?_, by have := tail_le s (i + 1); omega⟩;rw [bs_len, List.length_take, list_size];omega
   ·rw [if_neg c3] at h; cases h
theorem found_at {ks : List ByteArray} {key : ByteArray} (hso : SortK ks) : decide (posK ks key < ks.length /\ (ks[posK ks key]?).getD key = key) = ks.contains key := by
 rw [Bool.eq_iff_iff, decide_eq_true_eq, contains_hasS, hasS_mem];constructor
 ·rintro ⟨h1, h2⟩
  obtain ⟨a, ha⟩ := exists_at h1;rw [ha] at h2;exact h2 ▸ List.mem_of_getElem? ha
 ·intro hm
  obtain ⟨j, hj⟩ := List.getElem?_of_mem hm;have hjl := (List.getElem?_eq_some_iff.1 hj).1;have hle := posK_le ks key
  have h1 : ¬ j < posK ks key := fun h => by
   have := posK_less h hj;unfold lessS at this;rw [bless_self] at this;cases this
  have h2 : posK ks key = j := by
   rcases Nat.lt_or_ge (posK ks key) j with h | h
   ·exfalso
    obtain ⟨a, ha⟩ := exists_at (l := ks) (k := posK ks key) (by omega);have h3 := posK_not hso (Nat.le_refl _) ha
    have h4 : lessS a key = true := by
     have := List.pairwise_iff_getElem.1 hso (posK ks key) j (by omega) hjl h;rw [(List.getElem?_eq_some_iff.1 ha).2, (List.getElem?_eq_some_iff.1 hj).2] at this;exact this
    rw [h4] at h3;cases h3
   ·omega
  rw [h2, hj];exact ⟨hjl, rfl⟩
theorem c_BinarySearch2 (ks : List ByteArray) (key : ByteArray) (v : Value) (w : World) (lo : Nat) (hs : Sl_Str lo w.heap.size w ks v) (hso : SortK ks) (hn : ks.length <= 1048577) :
  Calls Tryz.prog 183 #[v, .string key] w fun e w' => e = .returned (.tuple #[.int .i64 (posK ks key : Nat), .bool (ks.contains key)]) /\ Below w.heap.size w w' := by
 obtain ⟨A, c, rfl, hlc, hcc, hA⟩ := hs;by_cases hp : 0 < ks.length
 ·obtain ⟨b, o, rfl, -, -, hcell⟩ := hA hp
  have h := Any2.slices_BinarySearch_string laysBs b o ks.length c (fun t => (ks[t]?).getD key) key w (by omega) (fun j hj => by
   obtain ⟨d, hd⟩ := exists_at hj;obtain ⟨es, -, hcs, rfl, -⟩ := hcell j d hd;have h0 := hcs 0 (by omega);simp at h0;rw [hd]
   exact h0)
  change Calls Tryz.prog 183 _ _ _ at h
  refine h.mono ?_;rintro e w' ⟨rfl, q, rfl⟩
  have hb := Lib.bsGo_spec (fun t => Op.bytesLess ((ks[t]?).getD key).toList key.toList) (posK ks key) (fun t ht => by
    have hl := posK_le ks key;obtain ⟨d, hd⟩ := exists_at (l := ks) (k := t) (by omega);simp only [hd, Option.getD_some]
    exact posK_less ht hd) (fun t ht => by
    rcases hd : ks[t]? with _ | d
    ·simp only [Option.getD_none]
     exact bless_self _
    ·simp only [Option.getD_some]
     exact posK_not hso ht hd) ks.length 0 ks.length (by omega) (Nat.zero_le _) (posK_le _ _)
  rw [hb];refine ⟨?_, below_drewN (Below.refl _ _) _⟩;rw [<- found_at hso]
 ·obtain rfl : ks = [] := List.eq_nil_of_length_eq_zero (by omega)
  have h := Any2.slices_BinarySearch_string_empty laysBs A c key w;change Calls Tryz.prog 183 _ _ _ at h
  refine h.mono ?_;rintro e w' ⟨rfl, rfl⟩;exact ⟨rfl, Below.refl _ _⟩
theorem empty_size (s : ByteArray) : s.toList.isEmpty = decide (s.size = 0) := by
 rw [ByteArray.toList_eq, <- list_size];cases s.data.toList <;> simp
theorem set6_st {w : World} {b : Nat} {a0 a1 a2 a3 a4 a5 v0 v1 v2 v3 v4 v5 : Value} {e : TypeId} (h : w.heap[b]? = some (.cells #[a0, a1, a2, a3, a4, a5] e (0, 0))) :
  ((((((w.setCell ⟨b, 0, none⟩ v0).setCell ⟨b, 1, none⟩ v1).setCell ⟨b, 2, none⟩ v2).setCell ⟨b, 3, none⟩ v3).setCell ⟨b, 4, none⟩ v4).setCell ⟨b, 5, none⟩ v5).heap[b]? = some (.cells #[v0, v1, v2, v3, v4, v5] e (0, 0)) :=
 heap_setCell_same _ b 5 _ _ _ (heap_setCell_same _ b 4 _ _ _ (heap_setCell_same _ b 3 _ _ _ (heap_setCell_same _ b 2 _ _ _ (heap_setCell_same _ b 1 _ _ _ (heap_setCell_same w b 0 _ _ _ h)))))
theorem InAt.len {ty : TypeId} {b g N cap : Nat} {L : List LineD} {m : Nat} {f : Flt} {w : World} (h : InAt ty b g N cap L m f w) : L.length <= N := by
 obtain ⟨p, hb⟩ := h.open;have := hb.pos;omega
def KidM (nT : Nat) (res : ResI) (w7 wx : World) (es : List Value) (L' : List LineD) (m' : Nat) (f' : Flt) : Prop := match res with
  | .bad f => f' = f /\ f.code ≠ 0
  | .good t L m => f' = flt0 /\ L' = L /\ m' = m /\ OwnT nT (fun x => w7.heap.size <= x /\ x < wx.heap.size) wx t es
def KidAt (ty : TypeId) (b g N cap nT kb : Nat) (w7 : World) (res : ResI) (wx : World) : Prop :=
 ∃ (u0 : Int) (u1 : Bool) (u2 : Int) (u3 : ByteArray) (U4 : Option Addr) (u4 u44 : Nat) (U5 : Option Addr) (u5 u55 : Nat) (L' : List LineD) (m' : Nat) (f' : Flt),
  wx.heap[kb]? = some (.cells #[.int .i64 u0, .bool u1, .int .i64 u2, .string u3, .slice U4 u4 u44, .slice U5 u5 u55] 34 (0, 0)) /\
  Aside (fun q => q = b ∨ q = g ∨ q = kb) w7 wx /\ InAt ty b g N cap L' m' f' wx /\ InOk L' /\ L'.length <= N /\ KidM nT res w7 wx [.int .i64 u0, .bool u1, .int .i64 u2, .string u3, .slice U4 u4 u44, .slice U5 u5 u55] L' m' f'
theorem kid_good {nU nT kb : Nat} {res res' : ResI} {w7 w9 wx : World} {es : List Value} {L' : List LineD} {m' : Nat} {f' : Flt} (he : res = res') (h : KidM nU res' w7 w9 es L' m' f') (hn : nU <= nT) (hF : Aside (fun q => q = kb) w9 wx) (hk : ∀ x, w7.heap.size <= x -> x < w9.heap.size -> x ≠ kb) : KidM nT res w7 wx es L' m' f' := by
 subst he;unfold KidM at h ⊢;cases res with
 | bad f => exact h
 | good t L m => exact ⟨h.1, h.2.1, h.2.2.1, (h.2.2.2.up hn).carry (fun x hx => hF.block x hx.2 (hk x hx.1 hx.2)) (fun x hx => ⟨hx.1, Nat.lt_of_lt_of_le hx.2 hF.size⟩)⟩
theorem kid_line {nT d m a : Nat} {res : ResI} {w7 wx : World} {es : List Value} {s : ByteArray} {t L' : List LineD} {m' : Nat} {f' : Flt} (he : res = (match beginF d m a with
      | some f => .bad f
      | none => match scalB s with
       | none => .bad (fltA 4 a)
       | some u => .good u t (m + 1))) (hsc : scA s = es) (h1 : L' = t) (h2 : m' = m + 1) (h3 : f' = scF (beginX d m a) s a) : KidM (nT + 1) res w7 wx es L' m' f' := by
 subst he h1 h2 h3 hsc;rcases begin_or d m a with ⟨e1, e2⟩ | ⟨f, e1, e2, e3⟩
 ·rw [e1, e2]
  simp only;unfold scF scA KidM;rcases hs : scalB s with _ | u
  ·exact ⟨if_pos rfl, by show (4 : Int) ≠ 0; decide⟩
  ·exact ⟨rfl, rfl, rfl, (scal_own hs).2⟩
 ·rw [e1, e2]
  unfold scF KidM;rcases hs : scalB s with _ | u
  ·exact ⟨if_neg e3, e3⟩
  ·exact ⟨rfl, e3⟩
theorem kid_lineP {nT d m a : Nat} {res : ResI} {w7 wx : World} {es : List Value} {s : ByteArray} {t L' : List LineD} {m' : Nat} {f' : Flt} (hn : 0 < nT) (he : res = (match beginF d m a with
      | some f => .bad f
      | none => match scalB s with
       | none => .bad (fltA 4 a)
       | some u => .good u t (m + 1))) (hsc : scA s = es) (h1 : L' = t) (h2 : m' = m + 1) (h3 : f' = scF (beginX d m a) s a) : KidM nT res w7 wx es L' m' f' := by
 obtain ⟨k, rfl⟩ : ∃ k, nT = k + 1 := ⟨nT - 1, by omega⟩
 exact kid_line he hsc h1 h2 h3
theorem LBoxI.set4 {b g : Nat} {kind : Int} {w wx : World} {vk vl u : Value} (h : LBoxI b g kind w wx vk vl) : LBoxI b g kind w (wx.setCell ⟨w.heap.size + 1, 4, none⟩ u) u vl :=
 ⟨(Below.heap_setCell _ _ _ _ (by simp)).trans h.zero, heap_setCell_same wx (w.heap.size + 1) 4 _ _ u h.list, aside_set (.inr (.inr (by simp))) h.aside⟩
theorem LBoxI.set5 {b g : Nat} {kind : Int} {w wx : World} {vk vl u : Value} (h : LBoxI b g kind w wx vk vl) : LBoxI b g kind w (wx.setCell ⟨w.heap.size + 1, 5, none⟩ u) vk u :=
 ⟨(Below.heap_setCell _ _ _ _ (by simp)).trans h.zero, heap_setCell_same wx (w.heap.size + 1) 5 _ _ u h.list, aside_set (.inr (.inr (by simp))) h.aside⟩
theorem pair_grow {n i d m m' : Nat} {x : LineD} {r L' : List LineD} {rest : ByteArray} {t : TreeD} (h : pairJ n i d x r rest m = .good t L' m') (hm : m <= 300) (hd : d <= 8) : m + 1 <= m' /\ m' <= 300 := by
 unfold pairJ at h;by_cases c : rest.size = 0
 ·rw [if_pos c] at h
  exact readK_growB h hm (by omega)
 ·rw [if_neg c] at h
  rcases hb : beginF (d + 1) m x.at' with _ | f
  ·rw [hb] at h
   simp only at h;have := (begin_none hb).2;rcases hs : scalB rest with _ | v
   ·rw [hs] at h; cases h
   ·rw [hs] at h
    cases h
    omega
  ·rw [hb] at h; cases h
theorem pair_less {n i d m m' : Nat} {x : LineD} {r L' : List LineD} {rest : ByteArray} {t : TreeD} (h : pairJ n i d x r rest m = .good t L' m') : costL L' <= costL r := by
 unfold pairJ at h;by_cases c : rest.size = 0
 ·rw [if_pos c] at h
  exact (readK_less _ _ _ _ _ _ _ h).1
 ·rw [if_neg c] at h
  rcases hb : beginF (d + 1) m x.at' with _ | f
  ·rw [hb] at h
   simp only at h;rcases hs : scalB rest with _ | v
   ·rw [hs] at h; cases h
   ·rw [hs] at h
    cases h
    omega
  ·rw [hb] at h; cases h
theorem pair_len {n i d m m' : Nat} {x : LineD} {r L' : List LineD} {rest : ByteArray} {t : TreeD} (h : pairJ n i d x r rest m = .good t L' m') : L'.length <= r.length := by
 unfold pairJ at h;by_cases c : rest.size = 0
 ·rw [if_pos c] at h
  exact readK_len_le h
 ·rw [if_neg c] at h
  rcases hb : beginF (d + 1) m x.at' with _ | f
  ·rw [hb] at h
   simp only at h;rcases hs : scalB rest with _ | v
   ·rw [hs] at h; cases h
   ·rw [hs] at h
    cases h
    omega
  ·rw [hb] at h; cases h
theorem of_inPairs (w0 : World) (b g N cap n : Nat) (h0 : In0 w0 b g) (hbl : ∀ k, k < n -> T_bI w0 b g N cap k) : T_pI w0 b g N cap n := by
 intro i d L0 m0 w hd1 hd8 hm0 hok0 hn hw h;have HRd := hid h;have Hbl := hid hbl;have HW := hid hw;have H0 := hid h0;have hlb := h.lt.1;have hlg := h.lt.2;obtain ⟨nT, hnT⟩ : ∃ k, 10 - d = k + 1 := ⟨9 - d, by omega⟩
 have HNT := hid (show 10 - (d + 1) = nT by omega);have hnT1 : 0 < nT := by omega
 obtain ⟨r, hr⟩ : ∃ r, r = readK n (.pairs i d [] []) L0 m0 := ⟨_, rfl⟩
 rw [<- hr, hnT];have HR := hid hr;have HOk0 := hid hok0;have HN := hid hn;clear hr h hbl hw h0 hnT hok0 hn;go_enter Tryz.func104, Tryz.ntmps104
 go_wp2_with fail
 go_loopw [] (fun wr => PairsI 61 b g N cap i n d nT r w wr) (fun wr => inM N b wr)
 case atStart =>
  refine ⟨none, 0, 0, none, 0, 0, L0, m0, flt0, ⟨?_, ?_, Aside.of_below bel⟩, HRd.out.below bel, HOk0.out, .inl ⟨[], [], [], _, n, MapG.nil _ _ _ _, rfl, hm0, Nat.zero_le _, rfl, List.Pairwise.nil, HN.out, Nat.le_refl _, HR.out⟩⟩
  ·exact (Below.heap_alloc _ _ _ (by simp)).trans (heap_at (by simp))
  ·exact heap_at (by simp)
 case round =>
  obtain ⟨KA, kn, kc, VA, vn, vc, L, m, f, hLb, hRr, hok, hst⟩ := hrel;have HLb := hid hLb;have HRr := hid hRr;have HOk := hid hok;have HWr := hid (H0.out.keepW HW.out hLb.aside);clear hok hLb hRr;rcases hst with ⟨ks, acc, ess, F, k, hM, rfl, hm, hksm, hal, hso, hk1, hkn, hrr⟩ | ⟨hf, hrr⟩
  rotate_left
  ·have HQ : Hid (hereB f L i = false) := hid (by unfold hereB; rw [decide_eq_false hf]; rfl)
   have HF := hid (And.intro hf hrr);clear hf hrr;go_wp2_with fail
   refine (c_in_here b g N cap L m i f wr HRr.out).mono ?_;rintro e w1 ⟨rfl, hb1⟩;rw [HQ.out];have HLb1 := hid (HLb.out.same (Aside.of_below (S := fun q => q = b) hb1) (fun q hq => .inl hq) hlb hlg);have HR1 := hid (HRr.out.below hb1);have HB1 := hid hb1;clear hb1;obtain ⟨x0, x1, x2, x3, x4, x5, xf⟩ := row6 HLb1.out.zero;obtain ⟨y0, y1, y2, y3, y4, y5, yf⟩ := row6 HLb1.out.list;have l0 := row_lt HLb1.out.zero
   have l1 := row_lt HLb1.out.list;go_wp2_with fail
   exact bodyPost_ret (v := .agg #[.int .i64 6, .bool false, .int .i64 0, .string ⟨#[]⟩, .slice KA kn kc, .slice VA vn vc]) (by simp only [results, Tryz.results104]; go_simp) rfl (map_bad hlb hlg HLb1.out HR1.out HOk.out HF.out.1 HF.out.2 asd)
  have HM := hid hM;have HJ := hid hrr;have HNk := hid hk1;have HSo := hid hso;have HAL := hid hal
  have hkn2 : kn = ks.length := by
   obtain ⟨A, c, e⟩ := own_form hM.keys;cases e
   rfl
  have hvn2 : vn = acc.length := by
   obtain ⟨A, c, e⟩ := own_form hM.kids;cases e
   rfl
  subst hkn2 hvn2;clear hM hrr hk1 hso hal;rcases L with _ | ⟨x, t⟩
  ·have HQ : Hid (hereB flt0 [] i = false) := hid rfl
   have HF : Hid (r = .good (tMap ks acc) [] m) := hid (by
    have h1 := HNk.out;obtain ⟨k1, rfl⟩ : ∃ k1, k = k1 + 1 := ⟨k - 1, by unfold needI at h1; simp only at h1; omega⟩
    rw [HJ.out, readK_pairs_nil])
   go_wp2_with fail
   refine (c_in_here b g N cap [] m i flt0 wr HRr.out).mono ?_;rintro e w1 ⟨rfl, hb1⟩;rw [HQ.out];have HLb1 := hid (HLb.out.same (Aside.of_below (S := fun q => q = b) hb1) (fun q hq => .inl hq) hlb hlg);have HR1 := hid (HRr.out.below hb1);have HB1 := hid hb1;have HM1 := hid (HM.out.carry hb1.size (fun q _ h2 => hb1.block q h2));clear hb1;obtain ⟨x0, x1, x2, x3, x4, x5, xf⟩ := row6 HLb1.out.zero
   obtain ⟨y0, y1, y2, y3, y4, y5, yf⟩ := row6 HLb1.out.list;have l0 := row_lt HLb1.out.zero;have l1 := row_lt HLb1.out.list;go_wp2_with fail
   exact bodyPost_ret (v := .agg #[.int .i64 6, .bool false, .int .i64 0, .string ⟨#[]⟩, .slice KA ks.length kc, .slice VA acc.length vc]) (by simp only [results, Tryz.results104]; go_simp) rfl (map_good hlb hlg HLb1.out HM1.out HR1.out HOk.out HF.out asd)
  obtain ⟨k1, hk1⟩ : ∃ k1, k = k1 + 1 := ⟨k - 1, by have h1 := HNk.out; unfold needI at h1; simp only at h1; omega⟩
  by_cases hxi : x.ind = i
  rotate_left
  ·have HQ : Hid (hereB flt0 (x :: t) i = false) := hid (by show (decide (flt0.code = 0) && decide (x.ind = i)) = false; rw [decide_eq_false hxi]; rfl)
   have HF : Hid (r = .good (tMap ks acc) (x :: t) m) := hid (by rw [HJ.out, hk1, readK_pairs, if_pos (.inl hxi)]);clear hk1 hxi;go_wp2_with fail
   refine (c_in_here b g N cap (x :: t) m i flt0 wr HRr.out).mono ?_;rintro e w1 ⟨rfl, hb1⟩;rw [HQ.out];have HLb1 := hid (HLb.out.same (Aside.of_below (S := fun q => q = b) hb1) (fun q hq => .inl hq) hlb hlg);have HR1 := hid (HRr.out.below hb1);have HB1 := hid hb1;have HM1 := hid (HM.out.carry hb1.size (fun q _ h2 => hb1.block q h2));clear hb1;obtain ⟨x0, x1, x2, x3, x4, x5, xf⟩ := row6 HLb1.out.zero
   obtain ⟨y0, y1, y2, y3, y4, y5, yf⟩ := row6 HLb1.out.list;have l0 := row_lt HLb1.out.zero;have l1 := row_lt HLb1.out.list;go_wp2_with fail
   exact bodyPost_ret (v := .agg #[.int .i64 6, .bool false, .int .i64 0, .string ⟨#[]⟩, .slice KA ks.length kc, .slice VA acc.length vc]) (by simp only [results, Tryz.results104]; go_simp) rfl (map_good hlb hlg HLb1.out HM1.out HR1.out HOk.out HF.out asd)
  have HQ : Hid (hereB flt0 (x :: t) i = true) := hid (by show (decide (flt0.code = 0) && decide (x.ind = i)) = true; rw [decide_eq_true hxi]; rfl)
  have hj2 : r = (if (itemB x.text).isSome = true then .good (tMap ks acc) (x :: t) m else match keyB x.text with
   | none => .good (tMap ks acc) (x :: t) m
   | some (key, rest) =>
    if 400 < key.size then .bad (fltA 8 x.at')
    else if ks.contains key then .bad (fltA 5 x.at')
    else match pairJ k1 i d x t rest m with
     | .bad f => .bad f
     | .good u L' m' => readK k1 (.pairs i d (insL ks (posK ks key) key) (insL acc (posK ks key) u)) L' m') := by
   rw [HJ.out, hk1, readK_pairs];by_cases c : (itemB x.text).isSome = true
   ·rw [if_pos (.inr c), if_pos c]
   ·rw [if_neg (fun e => e.elim (fun e => e hxi) c), if_neg c]
    rfl
  have hxo := HOk.out.head;have hxz : x.text.size <= 20000 := by have := hxo.1; omega
  have hkk1 : k1 < n := by omega
  have HXI := hid hxi;have HXO := hid hxo;have hne := HNk.out;rw [hk1] at hne;have HNe := hid hne;have HX := hid hj2;clear hj2 hk1 hxi hxo HJ HNk hne;go_wp2_with fail
  refine (c_in_here b g N cap (x :: t) m i flt0 wr HRr.out).mono ?_;rintro e w1 ⟨rfl, hb1⟩;rw [HQ.out];have HLb1 := hid (HLb.out.same (Aside.of_below (S := fun q => q = b) hb1) (fun q hq => .inl hq) hlb hlg);have HR1 := hid (HRr.out.below hb1);have HB1 := hid hb1;have HM1 := hid (HM.out.carry hb1.size (fun q _ h2 => hb1.block q h2));clear hb1;obtain ⟨p, hbx⟩ := HR1.out.open;obtain ⟨a0, a1, a2, a3, a4, a5, af⟩ := row6 hbx.row
  have lb := row_lt hbx.row;obtain ⟨c0, c1, c2, cf⟩ := hbx.line x t rfl;have lg := hbx.lines;have hpN : (p : Int) < N := by have := hbx.pos; rw [List.length_cons] at this; omega
  have hp0 : (0 : Int) <= p := by omega
  have hcap := hbx.cap';have hgb := hbx.ne;have hN2 := hbx.small;have HPos := hid hbx.pos;obtain ⟨xi, xt, xa⟩ := x;simp only at c0 c1 c2 hxz;clear hbx;have hl1 := row_lt HLb1.out.list;go_upto_region 3 with fail
  go_cut [8] from 22 to 31 (fun s8 wx => s8 = .pointer (some ⟨w1.heap.size, 0, none⟩) /\ wx.heap[w1.heap.size]? = some (.cells #[.int .i64 (xi : Nat), .string xt, .int .i64 (xa : Nat)] 59 (0, 0)) /\ Below w1.heap.size w1 wx)
  case first =>
   go_region_law (fail)
   all_goals
    (try go_wp2_with fail)
    go_meet
    exact ⟨rfl, by rw [drew_heap]; exact heap_at (by simp), bel⟩
  case rest =>
   obtain ⟨rfl, hx1, hb2⟩ := hcut;have HX2 := hid hx1;have HLb2 := hid (HLb1.out.same (Aside.of_below (S := fun q => q = b) hb2) (fun q hq => .inl hq) hlb hlg);have HM2 := hid (HM1.out.carry hb2.size (fun q _ h2 => hb2.block q h2));have HR2 := hid (HR1.out.below hb2);have HB2 := hid (HB1.out.trans (hb2.mono HB1.out.size));have HW2 := hid (HWr.out.trans (HB2.out.mono HWr.out.size))
   have lx2 := row_lt hx1;have hs12 := hb2.size;clear hx1 hb2 a0 a1 a2 a3 a4 a5 af c0 c1 c2 cf lb lg hl1;obtain ⟨v0, v1, v2, vf⟩ := row3 HX2.out;obtain ⟨ka, kb, kq, hkv, hkq, hks⟩ := keyV_form (keyB xt);obtain ⟨ia, ib, iq, hiv, hiq⟩ := itemV_form (itemB xt)
   have HKy := hid (show Calls Tryz.prog 103 #[.string xt] wc fun e w' => e = .returned (.tuple #[.string ka, .string kb, .bool kq]) /\ Below wc.heap.size wc w' by
    have h := c_impl_KeyOf xt wc (by omega) (H0.out.cas.below HW2.out) (H0.out.tab.below HW2.out);rw [hkv] at h
    exact h)
   have HIt := hid (show ∀ W, Calls Tryz.prog 101 #[.string xt] W fun e w' => e = .returned (.tuple #[.string ia, .int .i64 ib, .bool iq]) /\ W = w' from fun W => by
    have h := c_impl_ItemOf xt W (by omega);rw [hiv] at h
    exact h)
   have HKS := hid hks;have HKQ := hid hkq;have HIQ := hid hiq;clear hkv hkq hks hiv hiq;go_wp2_with fail
   refine HKy.out.mono ?_;rintro e w3 ⟨rfl, hb3⟩;have HLb3 := hid (HLb2.out.same (Aside.of_below (S := fun q => q = b) hb3) (fun q hq => .inl hq) hlb hlg);have HM3 := hid (HM2.out.carry hb3.size (fun q _ h2 => hb3.block q h2));have HR3 := hid (HR2.out.below hb3);have HX3 := hid ((hb3.block _ lx2).trans HX2.out);have HB3 := hid (HB2.out.trans (hb3.mono HB2.out.size));have lx3 := row_lt HX3.out
   have hs23 := hb3.size;clear hb3 v0 v1 v2 vf;obtain ⟨v0, v1, v2, vf⟩ := row3 HX3.out;go_wp2_with fail
   refine (HIt.out w3).mono ?_;rintro e w4 ⟨rfl, rfl⟩
   have hstop : (kq = false ∨ iq = true) -> r = .good (tMap ks acc) (⟨xi, xt, xa⟩ :: t) m := fun hh => by
    rw [HX.out];by_cases c : (itemB xt).isSome = true
    ·rw [if_pos c]
    ·rw [if_neg c]
     have hk0 : kq = false := hh.elim id (fun h => absurd (HIQ.out ▸ h) c);rw [HKQ.out] at hk0;cases hk : keyB xt with
     | none => rfl
     | some _ => rw [hk] at hk0; cases hk0
   have HStop := hid hstop;clear hstop;rcases kq with _ | _
   ·have HF := hid (HStop.out (.inl rfl))
    obtain ⟨x0, x1, x2, x3, x4, x5, xf⟩ := row6 HLb3.out.zero;obtain ⟨y0, y1, y2, y3, y4, y5, yf⟩ := row6 HLb3.out.list;have l0 := row_lt HLb3.out.zero;have l1 := row_lt HLb3.out.list;go_wp2_with fail
    exact bodyPost_ret (v := .agg #[.int .i64 6, .bool false, .int .i64 0, .string ⟨#[]⟩, .slice KA ks.length kc, .slice VA acc.length vc]) (by simp only [results, Tryz.results104]; go_simp) rfl (map_good hlb hlg HLb3.out HM3.out HR3.out HOk.out HF.out asd)
   rcases iq with _ | _
   rotate_left
   ·have HF := hid (HStop.out (.inr rfl))
    obtain ⟨x0, x1, x2, x3, x4, x5, xf⟩ := row6 HLb3.out.zero;obtain ⟨y0, y1, y2, y3, y4, y5, yf⟩ := row6 HLb3.out.list;have l0 := row_lt HLb3.out.zero;have l1 := row_lt HLb3.out.list;go_wp2_with fail
    exact bodyPost_ret (v := .agg #[.int .i64 6, .bool false, .int .i64 0, .string ⟨#[]⟩, .slice KA ks.length kc, .slice VA acc.length vc]) (by simp only [results, Tryz.results104]; go_simp) rfl (map_good hlb hlg HLb3.out HM3.out HR3.out HOk.out HF.out asd)
   obtain ⟨rest, hkr⟩ : ∃ rest, keyB xt = some (ka, rest) /\ kb = rest := by
    have h := HKQ.out;cases hk : keyB xt with
    | none => rw [hk] at h; cases h
    | some kr => exact ⟨kr.2, by rw [(HKS.out kr.1 kr.2 hk).1], (HKS.out kr.1 kr.2 hk).2⟩
   obtain ⟨hkr, rfl⟩ := hkr
   have hx3 : r = (if 400 < ka.size then .bad (fltA 8 xa)
    else if ks.contains ka then .bad (fltA 5 xa)
    else match pairJ k1 i d ⟨xi, xt, xa⟩ t kb m with
     | .bad f => .bad f
     | .good u L' m' => readK k1 (.pairs i d (insL ks (posK ks ka) ka) (insL acc (posK ks ka) u)) L' m') := by
    rw [HX.out, if_neg (fun c => by rw [<- HIQ.out] at c; cases c), hkr]
   have HX4 := hid hx3;have hkz := key_le hkr hxz;obtain ⟨hkz1, hkz2⟩ := hkz;have HKr := hid hkr;clear hx3 hkr HX HStop HKS HKQ HIQ HKy HIt;by_cases hwide : (400 : Int) < ka.size
   ·have d4 : decide ((400 : Int) < ka.size) = true := decide_eq_true hwide
    have HF := hid (show r = .bad (fltA 8 xa) by rw [HX4.out, if_pos (by omega)]);go_wp2_with fail
    refine (c_in_fail b g N cap _ m flt0 8 xa w3 HR3.out).mono ?_;rintro e w4 ⟨rfl, hR4, hA4⟩;have HR4 := hid (show InAt 61 b g N cap (⟨xi, xt, xa⟩ :: t) m (fltA 8 xa) w4 from hR4);have HLb4 := hid (HLb3.out.same hA4 (fun q hq => .inl hq) hlb hlg);have HM4 := hid (HM3.out.carry hA4.size (fun q h1 h2 => hA4.block q h2 (by omega)));have HX4' := hid ((hA4.block _ lx3 (by have := HLb1.out.list; have := row_lt this; omega)).trans HX3.out)
    have hs34 := hA4.size;clear hR4 hA4 v0 v1 v2 vf;obtain ⟨v0, v1, v2, vf⟩ := row3 HX4'.out;have lx4 := row_lt HX4'.out;obtain ⟨y0, y1, y2, y3, y4, y5, yf⟩ := row6 HLb4.out.list;have ly4 := row_lt HLb4.out.list;go_wp2_with fail
    refine (c_BinarySearch2 ks ka _ _ (w.heap.size + 2) (own_strs HM4.out.keys HM4.out.size) HSo.out (by omega)).mono ?_;rintro e w5 ⟨rfl, hb5⟩;have HLb5 := hid (HLb4.out.same (Aside.of_below (S := fun q => q = b) hb5) (fun q hq => .inl hq) hlb hlg);have HM5 := hid (HM4.out.carry hb5.size (fun q _ h2 => hb5.block q h2));have HR5 := hid (HR4.out.below hb5);have HX5 := hid ((hb5.block _ lx4).trans HX4'.out)
    have lx5 := row_lt HX5.out;clear hb5 v0 v1 v2 vf y0 y1 y2 y3 y4 y5 yf;obtain ⟨v0, v1, v2, vf⟩ := row3 HX5.out;rcases hfd : ks.contains ka with _ | _
    ·clear hfd
     obtain ⟨p5, hbx⟩ := HR5.out.open;obtain ⟨a0, a1, a2, a3, a4, a5, af⟩ := row6 hbx.row;have lb := row_lt hbx.row;clear hbx;have a3' : w5.cell? ⟨b, 3, none⟩ = some (.int .i64 8) := a3;clear a3;obtain ⟨x0, x1, x2, x3, x4, x5, xf⟩ := row6 HLb5.out.zero;obtain ⟨y0, y1, y2, y3, y4, y5, yf⟩ := row6 HLb5.out.list;have l0 := row_lt HLb5.out.zero;have l1 := row_lt HLb5.out.list;go_wp2_with fail
     exact bodyPost_ret (v := .agg #[.int .i64 6, .bool false, .int .i64 0, .string ⟨#[]⟩, .slice KA ks.length kc, .slice VA acc.length vc]) (by simp only [results, Tryz.results104]; go_simp) rfl (map_bad hlb hlg HLb5.out HR5.out HOk.out (by show (8 : Int) ≠ 0; decide) HF.out asd)
    ·clear hfd
     go_wp2_with fail
     refine (c_in_fail b g N cap _ m (fltA 8 xa) 5 xa w5 HR5.out).mono ?_;rintro e w6 ⟨rfl, hR6, hA6⟩;have HR6 := hid (show InAt 61 b g N cap (⟨xi, xt, xa⟩ :: t) m (fltA 8 xa) w6 from hR6);have HLb6 := hid (HLb5.out.same hA6 (fun q hq => .inl hq) hlb hlg);clear hR6 hA6 v0 v1 v2 vf;obtain ⟨p6, hbx⟩ := HR6.out.open;obtain ⟨a0, a1, a2, a3, a4, a5, af⟩ := row6 hbx.row;have lb := row_lt hbx.row
     clear hbx;have a3' : w6.cell? ⟨b, 3, none⟩ = some (.int .i64 8) := a3;clear a3;obtain ⟨x0, x1, x2, x3, x4, x5, xf⟩ := row6 HLb6.out.zero;obtain ⟨y0, y1, y2, y3, y4, y5, yf⟩ := row6 HLb6.out.list;have l0 := row_lt HLb6.out.zero;have l1 := row_lt HLb6.out.list;go_wp2_with fail
     exact bodyPost_ret (v := .agg #[.int .i64 6, .bool false, .int .i64 0, .string ⟨#[]⟩, .slice KA ks.length kc, .slice VA acc.length vc]) (by simp only [results, Tryz.results104]; go_simp) rfl (map_bad hlb hlg HLb6.out HR6.out HOk.out (by show (8 : Int) ≠ 0; decide) HF.out asd)
   have d4 : decide ((400 : Int) < ka.size) = false := decide_eq_false hwide;obtain ⟨y0, y1, y2, y3, y4, y5, yf⟩ := row6 HLb3.out.list;have ly3 := row_lt HLb3.out.list;go_wp2_with fail
   refine (c_BinarySearch2 ks ka _ _ (w.heap.size + 2) (own_strs HM3.out.keys HM3.out.size) HSo.out (by omega)).mono ?_;rintro e w5 ⟨rfl, hb5⟩;have HLb5 := hid (HLb3.out.same (Aside.of_below (S := fun q => q = b) hb5) (fun q hq => .inl hq) hlb hlg);have HM5 := hid (HM3.out.carry hb5.size (fun q _ h2 => hb5.block q h2));have HR5 := hid (HR3.out.below hb5);have HX5 := hid ((hb5.block _ lx3).trans HX3.out)
   have HB5 := hid (HB3.out.trans (hb5.mono HB3.out.size));have lx5 := row_lt HX5.out;have hs35 := hb5.size;clear hb5 v0 v1 v2 vf y0 y1 y2 y3 y4 y5 yf;obtain ⟨v0, v1, v2, vf⟩ := row3 HX5.out;rcases hfd : ks.contains ka with _ | _
   rotate_left
   ·have HF := hid (show r = .bad (fltA 5 xa) by rw [HX4.out, if_neg (by omega), if_pos hfd])
    clear hfd;go_wp2_with fail
    refine (c_in_fail b g N cap _ m flt0 5 xa w5 HR5.out).mono ?_;rintro e w6 ⟨rfl, hR6, hA6⟩;have HR6 := hid (show InAt 61 b g N cap (⟨xi, xt, xa⟩ :: t) m (fltA 5 xa) w6 from hR6);have HLb6 := hid (HLb5.out.same hA6 (fun q hq => .inl hq) hlb hlg);clear hR6 hA6 v0 v1 v2 vf;obtain ⟨p6, hbx⟩ := HR6.out.open;obtain ⟨a0, a1, a2, a3, a4, a5, af⟩ := row6 hbx.row;have lb := row_lt hbx.row;clear hbx
    have a3' : w6.cell? ⟨b, 3, none⟩ = some (.int .i64 5) := a3;clear a3;obtain ⟨x0, x1, x2, x3, x4, x5, xf⟩ := row6 HLb6.out.zero;obtain ⟨y0, y1, y2, y3, y4, y5, yf⟩ := row6 HLb6.out.list;have l0 := row_lt HLb6.out.zero;have l1 := row_lt HLb6.out.list;go_wp2_with fail
    exact bodyPost_ret (v := .agg #[.int .i64 6, .bool false, .int .i64 0, .string ⟨#[]⟩, .slice KA ks.length kc, .slice VA acc.length vc]) (by simp only [results, Tryz.results104]; go_simp) rfl (map_bad hlb hlg HLb6.out HR6.out HOk.out (by show (5 : Int) ≠ 0; decide) HF.out asd)
   have hx5 : r = (match pairJ k1 i d ⟨xi, xt, xa⟩ t kb m with
     | .bad f => .bad f
     | .good u L' m' => readK k1 (.pairs i d (insL ks (posK ks ka) ka) (insL acc (posK ks ka) u)) L' m') := by
    rw [HX4.out, if_neg (by omega), if_neg (by rw [hfd]; decide)]
   have HX6 := hid hx5;have HNo := hid hfd;clear hx5 hfd HX4;obtain ⟨p5, hbx⟩ := HR5.out.open;obtain ⟨a0, a1, a2, a3, a4, a5, af⟩ := row6 hbx.row;have lb := row_lt hbx.row;clear hbx;have a3' : w5.cell? ⟨b, 3, none⟩ = some (.int .i64 0) := a3;clear a3;obtain ⟨q, hqd⟩ : ∃ q, q = decide (kb.size = 0) := ⟨_, rfl⟩
   have q1 : kb.toList.isEmpty = q := by rw [hqd]; exact empty_size kb
   have q2 : (kb.toList == []) = q := by rw [hqd, <- empty_size kb]; cases kb.toList <;> rfl
   have HQd := hid hqd;clear hqd;go_upto_if 78 with (fail)
   obtain ⟨w7, hw7⟩ : ∃ W, W = w5.alloc (.cells #[.int .i64 0, .bool false, .int .i64 0, .string ⟨#[]⟩, .slice none 0 0, .slice none 0 0] 34) := ⟨_, rfl⟩
   have hb7 : Below w5.heap.size w5 w7 := by rw [hw7]; exact bel
   have hK7 : w7.heap[w5.heap.size]? = some (.cells #[.int .i64 0, .bool false, .int .i64 0, .string ⟨#[]⟩, .slice none 0 0, .slice none 0 0] 34 (0, 0)) := by rw [hw7]; exact heap_at rfl
   rw [<- hw7];have HK7 := hid hK7;have HLb7 := hid (HLb5.out.same (Aside.of_below (S := fun q => q = b) hb7) (fun q hq => .inl hq) hlb hlg);have HM7 := hid (HM5.out.carry hb7.size (fun q _ h2 => hb7.block q h2));have HR7 := hid (HR5.out.below hb7);have HX7 := hid ((hb7.block _ lx5).trans HX5.out);have HW7 := hid (HWr.out.trans ((HB5.out.trans (hb7.mono HB5.out.size)).mono HWr.out.size))
   have hs57 := hb7.size;have lk7 := row_lt hK7;have lx7 := row_lt HX7.out;obtain ⟨kidR, hkid⟩ : ∃ q, q = pairJ k1 i d ⟨xi, xt, xa⟩ t kb m := ⟨_, rfl⟩
   have HKid := hid hkid;rw [<- hkid] at HX6;obtain ⟨kb0, hkb0⟩ : ∃ q, q = w5.heap.size := ⟨_, rfl⟩
   rw [<- hkb0] at lk7 HK7 ⊢;have HKb := hid hkb0;have HMk := hid (show MapG nT (w.heap.size + 2) kb0 w7 ks acc (.slice KA ks.length kc) (.slice VA acc.length vc) ess F by rw [HKb.out]; exact HM5.out.carry (Nat.le_refl _) (fun q _ h2 => hb7.block q h2));have hok2 := HOk.out.tail;have HOk2 := hid hok2;have hmm : m <= 1000 := by omega
   have hw1 : w.heap.size + 1 < w1.heap.size := row_lt HLb1.out.list;have hk5 : w.heap.size + 2 <= kb0 := by rw [hkb0]; have := row_lt HLb5.out.list; omega
   have hk5' : w1.heap.size < kb0 := by rw [hkb0]; omega
   clear hw7 hb7 hK7 hkid hkb0 v0 v1 v2 vf a0 a1 a2 a3' a4 a5 af lb hok2;obtain ⟨v0, v1, v2, vf⟩ := row3 HX7.out;go_cut [] from 79 to 94 (fun wx => KidAt 61 b g N cap nT kb0 w7 kidR wx)
   case first =>
    rcases q with _ | _
    rotate_left
    ·have hrz : kb.size = 0 := of_decide_eq_true HQd.out.symm
     have hdd : IntKind.i64.wrap ((d : Int) + 1) = ((d + 1 : Nat) : Int) := by rw [IntKind.wrap_i64] <;> omega
     obtain ⟨dz, hdz⟩ : ∃ dz : Int, dz = ((d + 1 : Nat) : Int) := ⟨_, rfl⟩
     have HC := hid (Hbl.out k1 hkk1 i (d + 1) ⟨xi, xt, xa⟩ t m w7 (by omega) (by omega) hm HOk.out (by have := HNe.out; unfold needI at this ⊢; simp only [cost_cons] at this ⊢; omega) HW7.out HR7.out);have HKR := hid (HKid.out.trans (if_pos hrz));rw [<- hdz] at hdd HC;clear hdz hrz;go_wp2_with fail
     refine HC.out.mono ?_;intro e w9 hv9;obtain ⟨cs, L', m', f', rfl, ht9, hR9, hok9, hA9, hm9⟩ := hv9;obtain ⟨u0, u1, u2, u3, U4, u4, u44, U5, u5, u55, rfl⟩ := ht9;have HK9 := hid ((hA9.block kb0 lk7 (by omega)).trans HK7.out);have HR9 := hid hR9;have HOk9 := hid hok9;have HA9 := hid hA9;have HM9 := hid hm9;have hs79 := hA9.size;clear hR9 hok9 hA9 hm9 v0 v1 v2 vf;obtain ⟨z0, z1, z2, z3, z4, z5, zf⟩ := row6 HK9.out
     have lk9 := row_lt HK9.out;go_wp2_with fail
     go_meet
     exact ⟨u0, u1, u2, u3, U4, u4, u44, U5, u5, u55, L', m', f', set6_st HK9.out, (HA9.out.mono (fun q hq => hq.elim .inl (fun h => .inr (.inl h)))).trans ((asd : Aside (fun q => q = kb0) w9 _).mono (fun q hq => .inr (.inr hq))), HR9.out.past (S := fun q => q = kb0) asd (by omega) (by omega), HOk9.out, InAt.len HR9.out, kid_good (kb := kb0) HKR.out HM9.out (by rw [HNT.out]; exact Nat.le_refl _) asd (fun x h1 h2 => by omega)⟩
    ·have hrz : ¬ kb.size = 0 := of_decide_eq_false HQd.out.symm
     have hdd : IntKind.i64.wrap ((d : Int) + 1) = ((d + 1 : Nat) : Int) := by rw [IntKind.wrap_i64] <;> omega
     obtain ⟨dz, hdz⟩ : ∃ dz : Int, dz = ((d + 1 : Nat) : Int) := ⟨_, rfl⟩
     have HC := hid (c_in_begin b g N cap _ m (d + 1) xa w7 HR7.out hmm (by omega));have HKR := hid (HKid.out.trans (if_neg hrz));rw [<- hdz] at hdd HC;clear hdz hrz;go_wp2_with fail
     refine HC.out.mono ?_;rintro e w8 ⟨rfl, hR8, hA8⟩;have HR8 := hid hR8;have HA8 := hid (hA8.mono (fun q hq => (.inl hq : q = b ∨ q = g)));have HX8 := hid ((hA8.block _ lx7 (by omega)).trans HX7.out);have HK8 := hid ((hA8.block _ lk7 (by omega)).trans HK7.out);have HW8 := hid (H0.out.keep HW7.out HA8.out);clear hR8 hA8 v0 v1 v2 vf;obtain ⟨v0, v1, v2, vf⟩ := row3 HX8.out
     have lx8 := row_lt HX8.out;go_wp2_with fail
     refine (c_in_scalar w0 b g N cap _ t (m + 1) (beginX (d + 1) m xa) kb xa w8 H0.out HW8.out (by omega) HR8.out).mono ?_;rintro e w9 ⟨rfl, hR9, hA9⟩;obtain ⟨u0, u1, u2, u3, U4, u4, u44, U5, u5, u55, hsc⟩ := scA_tree kb;rw [hsc];have HSc := hid hsc;have HK9 := hid ((hA9.block kb0 (row_lt HK8.out) (by omega)).trans HK8.out);have HR9 := hid hR9;have HA9 := hid (HA8.out.trans (hA9.mono (fun q hq => (.inl hq : q = b ∨ q = g))))
     have HOk9 := HOk2;obtain ⟨L', hL'⟩ : ∃ q, q = t := ⟨_, rfl⟩
     obtain ⟨m', hm'⟩ : ∃ q, q = m + 1 := ⟨_, rfl⟩
     obtain ⟨f', hf'⟩ : ∃ q, q = scF (beginX (d + 1) m xa) kb xa := ⟨_, rfl⟩
     rw [<- hL', <- hm', <- hf'] at HR9;rw [<- hL'] at HOk9;have HL := hid (And.intro hL' (And.intro hm' hf'));clear hR9 hA9 hsc hL' hm' hf' v0 v1 v2 vf;obtain ⟨z0, z1, z2, z3, z4, z5, zf⟩ := row6 HK9.out;have lk9 := row_lt HK9.out;go_wp2_with fail
     go_meet
     exact ⟨u0, u1, u2, u3, U4, u4, u44, U5, u5, u55, L', m', f', set6_st HK9.out, (HA9.out.mono (fun q hq => hq.elim .inl (fun h => .inr (.inl h)))).trans ((asd : Aside (fun q => q = kb0) w9 _).mono (fun q hq => .inr (.inr hq))), HR9.out.past (S := fun q => q = kb0) asd (by omega) (by omega), HOk9.out, InAt.len HR9.out, kid_lineP hnT1 HKR.out HSc.out HL.out.1 HL.out.2.1 HL.out.2.2⟩
   case rest =>
    obtain ⟨u0, u1, u2, u3, U4, u4, u44, U5, u5, u55, L', m', f', hK, hA, hR, hok', hlen', hKm⟩ := hcut;have HKc := hid hK;have HRc := hid hR;have HOkc := hid hok';have HKm := hid hKm;have HLc := hid (HLb7.out.same hA (fun q hq => by omega) hlb hlg);have HMc := hid (HMk.out.carry (Nat.le_refl _) (fun q h1 h2 => hA.block q (by omega) (by omega)));have hs7c := hA.size;have hkc := row_lt hK
    clear hK hA hR hok' hKm v0 v1 v2 vf q1 q2 HQd;obtain ⟨pi, hpi⟩ : ∃ q, q = posK ks ka := ⟨_, rfl⟩
    rw [<- hpi];have HPi := hid hpi;have hiks : pi <= ks.length := by rw [hpi]; exact posK_le ks ka
    have hial : pi <= acc.length := by have := HAL.out; omega
    have halz : acc.length <= 300 := by have := HAL.out; omega
    have Hone : Hid (∀ z ∈ ([.int .i64 u0, .bool u1, .int .i64 u2, .string u3, .slice U4 u4 u44, .slice U5 u5 u55] : List Value), z.oneCell' = true) := hid (TreeV.one ⟨u0, u1, u2, u3, U4, u4, u44, U5, u5, u55, rfl⟩);clear hpi;obtain ⟨y0, y1, y2, y3, y4, y5, yf⟩ := row6 HLc.out.list;have lyc := row_lt HLc.out.list;go_wp2_with fail
    obtain ⟨wa, hwa⟩ : ∃ W, W = wc.alloc (.cells #[.string ka] 9) := ⟨_, rfl⟩
    have hba : Below wc.heap.size wc wa := by rw [hwa]; exact bel
    have hza : wa.heap.size <= wc.heap.size + 1 := by rw [hwa]; simp
    have hzb : wc.heap.size + 1 <= wa.heap.size := by rw [hwa]; simp
    have Xa : wa.heap[wc.heap.size]? = some (.cells #[.string ka] 9 (0, 0)) := by rw [hwa]; exact heap_at rfl
    rw [<- hwa];have HBa := hid hba;have HXa := hid Xa;have HLa := hid (HLc.out.same (Aside.of_below (S := fun q => q = b) hba) (fun q hq => .inl hq) hlb hlg);have HRa := hid (HRc.out.below hba);have HKa := hid ((hba.block _ hkc).trans HKc.out);have HMa := hid (HMc.out.carry (Nat.le_refl _) (fun q h1 h2 => hba.block q (by omega)));clear y0 y1 y2 y3 y4 y5 yf hwa Xa hba;refine (c_Insert_Str (w.heap.size + 2) ks.length pi wc.heap.size _ (.string ka) (ks.map Value.string) _ HMa.out.keys hiks HXa.out (one_strs ks) rfl (by omega) (by omega) (fun h => by have := HMa.out.hk _ h; omega)).mono ?_
    rintro e w8 ⟨g8, cap, rfl, hown8, hgrow8, hat8, hlt8⟩;have hA8 := aside_grown hgrow8;have hkb : ∀ q, (Value.slice KA ks.length kc).ownBlock = some q -> w.heap.size + 2 <= q /\ q < kb0 := fun q hq => ⟨(HMa.out.keys.lt q hq).1, HMa.out.hk q hq⟩
    have hlb8 : ∀ q, (Value.slice VA acc.length vc).ownBlock = some q -> w.heap.size + 2 <= q /\ q < kb0 := fun q hq => ⟨(HMa.out.kids.lt q hq).1, HMa.out.hl q hq⟩
    have hvv := own_apart HMa.out.kids HMa.out.keys (by decide);have hs8 := hgrow8.size;have HL8 := hid (HLa.out.same hA8 (fun q hq => .inr (.inr (hkb q hq.symm).1)) hlb hlg);have HR8 := hid (HRa.out.past hA8 (fun hq => by have := (hkb _ hq.symm).1; omega) (fun hq => by have := (hkb _ hq.symm).1; omega));have HK8 := hid ((hA8.block _ (by omega) (fun h => by have := (hkb _ h.symm).2; omega)).trans HKa.out)
    have HV8 := hid (ownsRow_carry HMa.out.kids (fun q hq => hA8.block q (by have := (hlb8 q hq).2; omega) (fun h => hvv q hq h.symm)));have hg8 : w.heap.size + 2 <= g8 := (hown8.lt g8 rfl).1;obtain ⟨y0, y1, y2, y3, y4, y5, yf⟩ := row6 HL8.out.list;have ly8 := row_lt HL8.out.list;have HOwn8 := hid hown8;have HGr8 := hid (And.intro hgrow8 hat8);have HKB := hid hkb;have HLB := hid hlb8
    clear hown8 hgrow8 hat8 hA8 hkb hlb8 hvv;go_upto_region 19 with fail
    obtain ⟨w9, hw9⟩ : ∃ W, W = w8.setCell ⟨w.heap.size + 1, 4, none⟩ (.slice (some ⟨g8, 0, none⟩) (ks.length + 1) cap) := ⟨_, rfl⟩
    rw [<- hw9];have hz9a : w9.heap.size <= w8.heap.size := by rw [hw9]; simp
    have hz9b : w8.heap.size <= w9.heap.size := by rw [hw9]; simp
    have hA9 : Aside (fun q => q = w.heap.size + 1) w8 w9 := by rw [hw9]; exact aside_set rfl (Aside.refl _ _)
    have HL9 := hid (show LBoxI b g 6 w w9 (.slice (some ⟨g8, 0, none⟩) (ks.length + 1) cap) (.slice VA acc.length vc) by rw [hw9]; exact HL8.out.set4);have HR9 := hid (HR8.out.past hA9 (fun hq => by omega) (fun hq => by omega));have HK9 := hid ((hA9.block _ (by omega) (by omega)).trans HK8.out);have HV9 := hid (ownsRow_carry HV8.out (fun q hq => hA9.block q (by have := (HLB.out q hq).2; omega) (by have := (HLB.out q hq).1; omega)))
    have HQ9 := hid (ownsRow_carry HOwn8.out (fun q hq => hA9.block q (HOwn8.out.lt q hq).2 (by have := (HOwn8.out.lt q hq).1; omega)));have HF01 := hid (show ∀ q, w.heap.size + 2 <= q -> q < wc.heap.size -> (Value.slice KA ks.length kc).ownBlock ≠ some q -> w9.heap[q]? = wc.heap[q]? from fun q h1 h2 h3 => (hA9.block q (by omega) (by omega)).trans ((HGr8.out.1.block q (by omega) (fun h => h3 h.symm)).trans (HBa.out.block q (by omega))))
    have HG9 := hid (show ∀ q, (Value.slice (some ⟨g8, 0, none⟩) (ks.length + 1) cap).ownBlock = some q -> (Value.slice KA ks.length kc).ownBlock = some q ∨ wc.heap.size <= q from fun q hq => by
     simp [Value.ownBlock] at hq;subst hq;rcases HGr8.out.2 with h | h
     ·exact .inl h
     ·exact .inr (by omega))
    have hs59 : wc.heap.size <= w9.heap.size := by omega
    clear y0 y1 y2 y3 y4 y5 yf hw9 hA9;obtain ⟨y0, y1, y2, y3, y4, y5, yf⟩ := row6 HL9.out.list;obtain ⟨v0, v1, v2, v3, v4, v5, vf⟩ := row6 HK9.out;have ly9 := row_lt HL9.out.list;have lx9 := row_lt HK9.out;go_wp2_with fail
    obtain ⟨w10, hw10⟩ : ∃ W, W = w9.alloc (.cells #[.int .i64 u0, .bool u1, .int .i64 u2, .string u3, .slice U4 u4 u44, .slice U5 u5 u55] 34) := ⟨_, rfl⟩
    have hb10 : Below w9.heap.size w9 w10 := by rw [hw10]; exact bel
    have hz10a : w10.heap.size <= w9.heap.size + 1 := by rw [hw10]; simp
    have hz10b : w9.heap.size + 1 <= w10.heap.size := by rw [hw10]; simp
    have X10 : w10.heap[w9.heap.size]? = some (.cells #[.int .i64 u0, .bool u1, .int .i64 u2, .string u3, .slice U4 u4 u44, .slice U5 u5 u55] 34 (0, 0)) := by rw [hw10]; exact heap_at rfl
    rw [<- hw10];have HB10 := hid hb10;have HX10 := hid X10;have HL10 := hid (HL9.out.same (Aside.of_below (S := fun q => q = b) hb10) (fun q hq => .inl hq) hlb hlg);have HR10 := hid (HR9.out.below hb10);have HV10 := hid (ownsRow_carry HV9.out (fun q hq => hb10.block q (by have := (HLB.out q hq).2; omega)));clear y0 y1 y2 y3 y4 y5 yf v0 v1 v2 v3 v4 v5 vf hw10 X10 hb10;refine (c_Insert_Tree (w.heap.size + 2) acc.length pi w9.heap.size _ ess.flatten [.int .i64 u0, .bool u1, .int .i64 u2, .string u3, .slice U4 u4 u44, .slice U5 u5 u55] _ HV10.out hial HX10.out rfl HMa.out.one Hone.out (by omega) (by omega) (fun h => by have := (HLB.out _ h).2; omega)).mono ?_
    rintro e w12 ⟨g2, cap2, rfl, hown12, hgrow12, hat12, hlt12⟩;have hA12 := aside_grown hgrow12;have hs12 := hgrow12.size;have HL12 := hid (HL10.out.same hA12 (fun q hq => .inr (.inr (HLB.out q hq.symm).1)) hlb hlg);have HR12 := hid (HR10.out.past hA12 (fun hq => by have := (HLB.out _ hq.symm).1; omega) (fun hq => by have := (HLB.out _ hq.symm).1; omega));obtain ⟨y0, y1, y2, y3, y4, y5, yf⟩ := row6 HL12.out.list
    have ly12 := row_lt HL12.out.list;have HOwn12 := hid hown12;have HGr12 := hid (And.intro hgrow12 hat12);clear hown12 hgrow12 hat12 hA12;go_wp2_with fail
    obtain ⟨w13, hw13⟩ : ∃ W, W = w12.setCell ⟨w.heap.size + 1, 5, none⟩ (.slice (some ⟨g2, 0, none⟩) (acc.length + 1) cap2) := ⟨_, rfl⟩
    rw [<- hw13];have hz13a : w13.heap.size <= w12.heap.size := by rw [hw13]; simp
    have hz13b : w12.heap.size <= w13.heap.size := by rw [hw13]; simp
    have hA13 : Aside (fun q => q = w.heap.size + 1) w12 w13 := by rw [hw13]; exact aside_set rfl (Aside.refl _ _)
    have HL13 := hid (show LBoxI b g 6 w w13 (.slice (some ⟨g8, 0, none⟩) (ks.length + 1) cap) (.slice (some ⟨g2, 0, none⟩) (acc.length + 1) cap2) by rw [hw13]; exact HL12.out.set5);have HR13 := hid (HR12.out.past hA13 (fun hq => by omega) (fun hq => by omega));have HL13k := hid (ownsRow_carry HOwn12.out (fun q hq => hA13.block q (HOwn12.out.lt q hq).2 (by have := (HOwn12.out.lt q hq).1; omega)))
    have HF12 := hid (show ∀ q, w.heap.size + 2 <= q -> q < w9.heap.size -> (Value.slice VA acc.length vc).ownBlock ≠ some q -> w13.heap[q]? = w9.heap[q]? from fun q h1 h2 h3 => (hA13.block q (by omega) (by omega)).trans ((HGr12.out.1.block q (by omega) (fun h => h3 h.symm)).trans (HB10.out.block q h2)))
    have HG13 := hid (show ∀ q, (Value.slice (some ⟨g2, 0, none⟩) (acc.length + 1) cap2).ownBlock = some q -> (Value.slice VA acc.length vc).ownBlock = some q ∨ w9.heap.size <= q from fun q hq => by
     simp [Value.ownBlock] at hq;subst hq;rcases HGr12.out.2 with h | h
     ·exact .inl h
     ·exact .inr (by omega))
    have hs913 : w9.heap.size <= w13.heap.size := by omega
    clear y0 y1 y2 y3 y4 y5 yf hw13 hA13;go_roundw
    case rel =>
     refine ⟨_, _, _, _, _, _, L', m', f', HL13.out, HR13.out, HOkc.out, ?_⟩;have hm9 := HKm.out;have hx6 := HX6.out;rcases hres : kidR with f1 | ⟨u, L1, m1⟩
     ·rw [hres] at hm9 hx6
      exact .inr ⟨by rw [hm9.1]; exact hm9.2, by rw [hm9.1]; exact hx6⟩
     ·rw [hres] at hm9 hx6
      obtain ⟨e1, e2, e3, e4⟩ := hm9;have hpj := HKid.out.symm.trans hres;obtain ⟨hgw1, hgw2⟩ := pair_grow hpj hm (by omega)
      have hMG := MapG.ins (i := pi) (w0 := wc) (w1 := w9) (w2 := w13) (vk' := .slice (some ⟨g8, 0, none⟩) (ks.length + 1) cap) (vl' := .slice (some ⟨g2, 0, none⟩) (acc.length + 1) cap2) (key := ka) HMc.out (by omega) (by omega) hiks hial e4 (fun x hx => ⟨by have := hx.1; omega, hx.2⟩) (by omega)
       HF01.out hs59 HQ9.out HG9.out HF12.out hs913 HL13k.out HG13.out
      refine .inl ⟨insL ks pi ka, insL acc pi u, _, _, k1, hMG, e1, by omega, by rw [ins_len hiks]; omega, by rw [ins_len hiks, ins_len hial, HAL.out], by rw [HPi.out]; exact ins_sorted HSo.out (by rw [<- contains_hasS]; exact HNo.out), ?_, by omega, by rw [hx6, e2, e3, HPi.out]⟩;have h1 := pair_less hpj;have h2 := HNe.out;rw [e2];unfold needI at h2 ⊢;simp only [cost_cons] at h1 h2 ⊢;omega
    case measure =>
     rw [HR13.out.meas, HRr.out.meas, if_pos (show flt0.code = 0 from rfl)];have hm9 := HKm.out;rcases hres : kidR with f1 | ⟨u, L1, m1⟩
     ·rw [hres] at hm9
      rw [hm9.1, if_neg hm9.2];omega
     ·rw [hres] at hm9
      rw [hm9.1, hm9.2.1, if_pos (show flt0.code = 0 from rfl)];have := pair_len (HKid.out.symm.trans hres);simp only [List.length_cons];omega
abbrev LinesE (base : Nat) (w : World) (l : List LineD) (v : Value) : Prop := RowE encLn 3 59 base w l v
def LinE (r : List LineD × Flt) (w : World) (e : Ending) (w' : World) : Prop := ∃ (A : Option Addr) (c : Nat), e = .returned (.tuple #[.slice A r.1.length c, .agg (fltC r.2)]) /\ LinesE w.heap.size w' r.1 (.slice A r.1.length c) /\ Below w.heap.size w w'
theorem cutA_pos : ∀ (l acc : List UInt8), 0 < (cutA acc l).length
 | [], _ => Nat.succ_pos 0
 | c :: l, acc => by
  unfold cutA;split
  ·exact Nat.succ_pos _
  ·exact cutA_pos l _
end Go.Proofs.YtohcpifekcehjaaGreatDoor
