/- Written by wip/tools/pack.py: the texts that FnExactBracedNormal needs, without what it does not need. No conditions. -/
import Derived.Test.YtffelpdefjkeaaaGreatDoorKBrN14
import Derived.Test.YtffelpdefjkeaaaGreatDoorKBrN16
import Derived.Test.YtffelpdefjkeaaaGreatDoorKBrN17
import Derived.Test.YtffelpdefjkeaaaGreatDoorKBrN13
import Derived.Test.YtffelpdefjkeaaaGreatDoorKBrN8
import Derived.Test.YtffelpdefjkeaaaGreatDoorKBrN10
namespace Go.Proofs.YtffelpdefjkeaaaGreatDoor
open Go.RowKit Go.Lib
theorem key_no {ks : List ByteArray} {l : List TreeD} {key : ByteArray} (h : hasS ks key = false) : keyI (tMap ks l) key = -1 := by
  show (if (6 : Int) = 6 then idxI ks key else -1) = -1
  rw [if_pos rfl]
  exact idxI_end ks key (by rw [List.take_of_length_le (Nat.le_refl _)]; exact h)
theorem key_yes {ks : List ByteArray} {l : List TreeD} {key : ByteArray} (h : hasS ks key = true) : ∃ k : Nat, keyI (tMap ks l) key = (k : Int) := by
  show ∃ k : Nat, (if (6 : Int) = 6 then idxI ks key else -1) = (k : Int)
  rw [if_pos rfl]
  unfold idxI
  rcases hx : ks.findIdx? (isS key) with _ | k
  · rw [List.findIdx?_eq_none_iff] at hx
    unfold hasS at h
    rw [List.any_eq_true] at h
    obtain ⟨x, h1, h2⟩ := h
    rw [hx x h1] at h2
    cases h2
  · exact ⟨k, rfl⟩
/-- The map's box is stored to as a whole. -/
theorem PBox.all {b : Nat} {w wx : World} {vk vl u v : Value} (h : PBox b w wx vk vl) : PBox b w ((((((wx.setCell ⟨w.heap.size + 1, 0, none⟩ (.int .i64 6)).setCell ⟨w.heap.size + 1, 1, none⟩ (.bool false)).setCell ⟨w.heap.size + 1, 2, none⟩ (.int .i64 0)).setCell ⟨w.heap.size + 1, 3, none⟩ (.string ⟨#[]⟩)).setCell ⟨w.heap.size + 1, 4, none⟩ u).setCell ⟨w.heap.size + 1, 5, none⟩ v) u v := by
  have h0 : PBox b w (wx.setCell ⟨w.heap.size + 1, 0, none⟩ (.int .i64 6)) vk vl := ⟨(Below.heap_setCell _ _ _ _ (by simp)).trans h.zero, heap_setCell_same wx (w.heap.size + 1) 0 _ _ _ h.map, aside_set (.inr (by simp)) h.aside⟩
  have h1 : PBox b w ((wx.setCell ⟨w.heap.size + 1, 0, none⟩ (.int .i64 6)).setCell ⟨w.heap.size + 1, 1, none⟩ (.bool false)) vk vl := ⟨(Below.heap_setCell _ _ _ _ (by simp)).trans h0.zero, heap_setCell_same _ (w.heap.size + 1) 1 _ _ _ h0.map, aside_set (.inr (by simp)) h0.aside⟩
  have h2 : PBox b w (((wx.setCell ⟨w.heap.size + 1, 0, none⟩ (.int .i64 6)).setCell ⟨w.heap.size + 1, 1, none⟩ (.bool false)).setCell ⟨w.heap.size + 1, 2, none⟩ (.int .i64 0)) vk vl := ⟨(Below.heap_setCell _ _ _ _ (by simp)).trans h1.zero, heap_setCell_same _ (w.heap.size + 1) 2 _ _ _ h1.map, aside_set (.inr (by simp)) h1.aside⟩
  have h3 : PBox b w ((((wx.setCell ⟨w.heap.size + 1, 0, none⟩ (.int .i64 6)).setCell ⟨w.heap.size + 1, 1, none⟩ (.bool false)).setCell ⟨w.heap.size + 1, 2, none⟩ (.int .i64 0)).setCell ⟨w.heap.size + 1, 3, none⟩ (.string ⟨#[]⟩)) vk vl := ⟨(Below.heap_setCell _ _ _ _ (by simp)).trans h2.zero, heap_setCell_same _ (w.heap.size + 1) 3 _ _ _ h2.map, aside_set (.inr (by simp)) h2.aside⟩
  exact h3.set4.set5
/-- A map's loop: pairs read so far. -/
def PairsAtS (L : List SignD) (E : Int) (R : Nat → Nat → Flt → World → Prop) (b n d : Nat) (r : Res) (w wx : World) : Prop :=
  ∃ (ks : List ByteArray) (acc : List TreeD) (p m k : Nat), GoodM R b (9 - d) w ks acc p m wx ∧ p ≤ L.length ∧ m ≤ 300 ∧ ks.length ≤ p ∧ acc.length = ks.length ∧ SortK ks ∧ needJ L p (.pairs d ks acc) ≤ k ∧ k ≤ n ∧ r = readJ L E k (.pairs d ks acc) p m
theorem BadM.finS {L : List SignD} {E : Int} {b N : Nat} {w wx wF : World} {f : Flt} {A A' : Option Addr} {n c n' c' p m : Nat} (hb : b < w.heap.size) (hL : PBox b w wx (.slice A n c) (.slice A' n' c')) (hR : RdAtS L E b p m f wx) (hp : p ≤ N) (hF : Aside (fun q => q = w.heap.size) wx wF) :
    BadT (RdAtS L E b) b N f w (.returned (.agg #[.int .i64 6, .bool false, .int .i64 0, .string ⟨#[]⟩, .slice A n c, .slice A' n' c'])) wF :=
  ⟨6, false, 0, ⟨#[]⟩, A, n, c, A', n', c', p, m, rfl, hR.past hF (fun q hq => by omega), hp, Aside.low (hL.aside.join hF (fun q hq _ => .inr (by omega)))⟩
theorem BadM.finZ {L : List SignD} {E : Int} {b N : Nat} {w wx wF : World} {f : Flt} {vk vl : Value} {p m : Nat} (hb : b < w.heap.size) (hL : PBox b w wx vk vl) (hR : RdAtS L E b p m f wx) (hp : p ≤ N) (hF : Aside (fun q => q = w.heap.size) wx wF) :
    BadT (RdAtS L E b) b N f w (.returned (.agg #[.int .i64 0, .bool false, .int .i64 0, .string ⟨#[]⟩, .slice none 0 0, .slice none 0 0])) wF :=
  ⟨0, false, 0, ⟨#[]⟩, none, 0, 0, none, 0, 0, p, m, rfl, hR.past hF (fun q hq => by omega), hp, Aside.low (hL.aside.join hF (fun q hq _ => .inr (by omega)))⟩
theorem GoodM.finS {L : List SignD} {E : Int} {b nT : Nat} {w wx wF : World} {ks : List ByteArray} {acc : List TreeD} {q m : Nat} {vk vl : Value} {ess : List (List Value)} {F : Nat → Nat → Prop} (hb : b < w.heap.size) (hL : PBox b w wx vk vl) (hG : MapG nT (w.heap.size + 2) wx.heap.size wx ks acc vk vl ess F) (hR : RdAtS L E b q m flt0 wx) (hF : Aside (fun q => q = w.heap.size) wx wF) :
    GoodT (RdAtS L E b) b (nT + 1) (tMap ks acc) q m w (.returned (.agg #[.int .i64 6, .bool false, .int .i64 0, .string ⟨#[]⟩, vk, vl])) wF := by
  refine ⟨[.int .i64 6, .bool false, .int .i64 0, .string ⟨#[]⟩, vk, vl], rfl, hG.tree (fun q h1 h2 => hF.block q h2 (by omega)) (fun b h1 h2 => ⟨by omega, Nat.lt_of_lt_of_le h2 hF.size⟩), hR.past hF (fun q hq => by omega), ?_⟩
  exact Aside.low (hL.aside.join hF (fun q hq _ => .inr (by omega)))
set_option maxHeartbeats 16000000 in
set_option maxRecDepth 20000 in
theorem of_pairsS (L : List SignD) (E : Int) (b n : Nat) (hL : SgOk L) (hv : ∀ k, k < n → T_valS L E b k) : T_pairsS L E b n := by
  intro d p0 m0 w hd1 hd8 hpl hm hn h
  have HRd := Lib.hid h
  have Hv := Lib.hid hv
  have hlb := h.lt
  have hlen := hL.len
  have HLs := Lib.hid hL
  obtain ⟨nd, hnd⟩ : ∃ k, 10 - d = k + 1 := ⟨9 - d, by omega⟩
  have hnd9 : 9 - d = nd := by omega
  obtain ⟨r, hr⟩ : ∃ r, r = pairsR L E n d p0 m0 := ⟨_, rfl⟩
  rw [← hr, hnd]
  have HR := Lib.hid hr
  have HN9 := Lib.hid hnd9
  have HNe := Lib.hid hn
  obtain ⟨t0, ht0⟩ : ∃ t, t = kindAt L p0 := ⟨_, rfl⟩
  have HT0 := Lib.hid ht0
  obtain ⟨a0', hpa0⟩ : ∃ z, z = placeAt L E p0 := ⟨_, rfl⟩
  have HP0 := Lib.hid hpa0
  clear hr h hv hnd hnd9 hn hL hpa0
  by_cases hk4 : kindAt L p0 = 2
  · have HQ := Lib.hid (show r = .good (tMap [] []) (p0 + 1) m0 by rw [HR.out]; exact if_pos hk4)
    obtain rfl : t0 = 2 := ht0.trans hk4
    clear hk4 ht0
    go_enter Tryz.func63, Tryz.ntmps63
    go_wp2_with fail
    refine (c_rs_next L E b p0 m0 flt0 _ (by omega) (HRd.out.below bel)).mono ?_
    rintro e w1 ⟨rfl, hb1⟩
    rw [← HT0.out, ← HP0.out]
    have hR1 : RdAtS L E b p0 m0 flt0 w1 := HRd.out.below bel
    have hL1 : PBox b w w1 (.slice none 0 0) (.slice none 0 0) := ⟨(hb1.block _ (by simp; omega)).trans ((Below.heap_alloc _ _ _ (by simp)).trans (heap_at (by simp))), (hb1.block _ (by simp)).trans (heap_at (by simp)), Aside.of_below bel⟩
    have HL1 := Lib.hid hL1
    have HR1 := Lib.hid hR1
    obtain ⟨A, c, hbx, -, -⟩ := hR1
    unfold rdC at hbx
    obtain ⟨a0, a1, a2, a3, a4, a5, a6, af⟩ := row7r hbx
    have lb := row_lt hbx
    clear hL1 hb1 hbx
    go_upto_region 5 with fail
    obtain ⟨w2, hw2⟩ : ∃ W, W = w1.setCell ⟨b, 1, none⟩ (.int .i64 ((p0 : Int) + 1)) := ⟨_, rfl⟩
    have hA2 : Aside (fun q => q = b) w1 w2 := by rw [hw2]; exact aside_set rfl (Aside.refl _ _)
    have hR2 : RdAtS L E b (p0 + 1) m0 flt0 w2 := RdAtS.poke HR1.out hA2 (fun A c h => by rw [hw2]; unfold rdC at h ⊢; exact set7_1 h)
    rw [← hw2]
    have HR2 := Lib.hid hR2
    have HL2 := Lib.hid (HL1.out.same hA2 (fun q hq => .inl hq) hlb)
    clear a0 a1 a2 a3 a4 a5 a6 af hw2 hA2 hR2
    obtain ⟨x0, x1, x2, x3, x4, x5, xf⟩ := row6 HL2.out.zero
    obtain ⟨y0, y1, y2, y3, y4, y5, yf⟩ := row6 HL2.out.map
    have l0 := row_lt HL2.out.zero
    have l1 := row_lt HL2.out.map
    go_wp2_with fail
    exact bodyPost_ret (v := .agg #[.int .i64 6, .bool false, .int .i64 0, .string ⟨#[]⟩, .slice none 0 0, .slice none 0 0]) (by simp only [results, Tryz.results63]; go_simp) rfl (ValE.good HQ.out (GoodM.finS hlb HL2.out (MapG.nil _ _ _ _) HR2.out (by repeat (first | (with_reducible exact Aside.refl _ _) | ((with_reducible refine aside_set ?_ ?_); (focus (simp; done))) | (with_reducible refine aside_alloc ?_)))))
  · have HQ := Lib.hid (show r = readJ L E n (.pairs d [] []) p0 m0 by rw [HR.out]; exact if_neg hk4)
    have dt0 : (t0 == 2) = false := beq_eq_false_iff_ne.2 (fun h => hk4 (ht0.symm.trans h))
    clear hk4 ht0
    go_enter Tryz.func63, Tryz.ntmps63
    go_wp2_with fail
    refine (c_rs_next L E b p0 m0 flt0 _ (by omega) (HRd.out.below bel)).mono ?_
    rintro e w1 ⟨rfl, hb1⟩
    rw [← HT0.out, ← HP0.out]
    have hR1 : RdAtS L E b p0 m0 flt0 w1 := HRd.out.below bel
    have hL1 : PBox b w w1 (.slice none 0 0) (.slice none 0 0) := ⟨(hb1.block _ (by simp; omega)).trans ((Below.heap_alloc _ _ _ (by simp)).trans (heap_at (by simp))), (hb1.block _ (by simp)).trans (heap_at (by simp)), Aside.of_below bel⟩
    have hG1 : GoodM (RdAtS L E b) b (9 - d) w [] [] p0 m0 w1 := ⟨_, _, _, _, hL1, MapG.nil _ _ _ _, hR1⟩
    have HG1 := Lib.hid hG1
    clear hR1 hL1 hG1 hb1
    go_wp2_with fail
    go_loopw [6, 7] (fun s6 s7 wr => (∃ z : Int, s6 = .int .i64 z) ∧ (∃ z : Int, s7 = .int .i64 z) ∧ PairsAtS L E (RdAtS L E b) b n d r w wr) (fun _ _ wr => rdM L.length b wr)
    case atStart => exact ⟨⟨_, rfl⟩, ⟨_, rfl⟩, [], [], p0, m0, n, HG1.out, hpl, hm, by simp, rfl, List.Pairwise.nil, HNe.out, Nat.le_refl _, HQ.out⟩
    case round =>
      obtain ⟨⟨z6, rfl⟩, ⟨z7, rfl⟩, hrel⟩ := hrel
      have HRel := Lib.hid hrel
      clear hrel HG1
      obtain ⟨ks, acc, p, m, k, hG, hp, hm3, hac, hac2, hso, hne, hkn, hrr⟩ := HRel.out
      clear HRel
      obtain ⟨vk, vl, ess, F, hLb, hmg, hRr⟩ := hG
      obtain ⟨KA, kc, rfl⟩ := own_form hmg.keys
      obtain ⟨VA, vc, rfl⟩ := own_form hmg.kids
      have HRr := Lib.hid hRr
      have HLb := Lib.hid hLb
      have HM := Lib.hid hmg
      have HSo := Lib.hid hso
      have HJ := Lib.hid hrr
      obtain ⟨k1, hk1⟩ : ∃ k1, k = k1 + 1 := by cases k with | zero => simp [needJ] at hne | succ k1 => exact ⟨k1, rfl⟩
      have hk1n : k1 < n := by omega
      have HJ2 := Lib.hid (show r = readJ L E (k1 + 1) (.pairs d ks acc) p m by rw [HJ.out, hk1])
      have HNl := Lib.hid (show 2 * (L.length - p) + 2 ≤ k1 + 1 by subst hk1; unfold needJ at hne; simp only at hne; exact hne)
      obtain ⟨dd, hdd⟩ : ∃ dd, dd = d + 1 := ⟨_, rfl⟩
      have hdd1 : 1 ≤ dd := by omega
      have hdd9 : dd ≤ 9 := by omega
      have hddI : (d : Int) + 1 = (dd : Int) := by omega
      have HDD := Lib.hid hdd
      have HAC := Lib.hid hac2
      obtain ⟨t, ht⟩ : ∃ t, t = kindAt L p := ⟨_, rfl⟩
      have HT := Lib.hid ht
      obtain ⟨pl, hpl1⟩ : ∃ z, z = placeAt L E p := ⟨_, rfl⟩
      have HP := Lib.hid hpl1
      obtain ⟨A, c, hbx, -, -⟩ := hRr
      unfold rdC at hbx
      obtain ⟨a0, a1, a2, a3, a4, a5, a6, af⟩ := row7r hbx
      have lb := row_lt hbx
      have a4' : wr.cell? ⟨b, 4, none⟩ = some (.int .i64 0) := a4
      clear hLb hmg hrr hk1 hne hbx a4 hso hkn hdd hac2 hpl1
      by_cases hkk : kindAt L p = 7
      · obtain ⟨x, hx⟩ : ∃ x, L[p]? = some x := by
          rcases hx : L[p]? with _ | x
          · rw [kindAt_none hx] at hkk; omega
          · exact ⟨x, rfl⟩
        have hxk : x.kind = 7 := by rw [← kindAt_some hx]; exact hkk
        have hpl2 : p < L.length := (List.getElem?_eq_some_iff.1 hx).1
        have hxt := HLs.out.text p x hx
        have HX := Lib.hid hx
        have HXk := Lib.hid hxk
        obtain ⟨key, hkey⟩ : ∃ key, key = x.text := ⟨_, rfl⟩
        have HKey := Lib.hid hkey
        rw [← hkey] at hxt
        obtain rfl : t = 7 := ht.trans hkk
        clear hx hxk hkk hkey ht
        go_wp2_with fail
        refine (c_rs_next L E b p m flt0 _ (by omega) HRr.out).mono ?_
        rintro e w1 ⟨rfl, hb1⟩
        rw [← HT.out, ← HP.out]
        have HR1 := Lib.hid (HRr.out.below hb1)
        have HL1 := Lib.hid (HLb.out.same (Aside.of_below (S := fun q => q = b) hb1) (fun q hq => .inl hq) hlb)
        have HM1 := Lib.hid (HM.out.carry hb1.size (fun q h1 h2 => hb1.block q h2))
        have hs1 := hb1.size
        clear a0 a1 a2 a3 a4' a5 a6 af hb1
        obtain ⟨A1, c1, hbx, hrow, -⟩ := HR1.out
        unfold rdC at hbx
        obtain ⟨a0, a1, a2, a3, a4, a5, a6, af⟩ := row7r hbx
        have lb1 := row_lt hbx
        obtain ⟨g, x', rfl, hx', hlc, lg, d0, d1, d2, d3⟩ := sign_row (p := p) hrow hpl2
        obtain rfl : x' = x := Option.some.inj (hx'.symm.trans HX.out)
        rw [← HKey.out] at d1
        have hp0 : (0 : Int) ≤ p := by omega
        have hp1 : (p : Int) < L.length := by omega
        clear hbx hrow hx' d0 d2 d3
        go_wp2_with fail
        refine wp_region_det 11 (by kernel_rfl) (by kernel_rfl) (by decide) ?_
        apply Exists.intro
        refine And.intro ?_ ?_
        · (intro W hW; (try simp only [Act.put, List.setIfInBounds_toArray, List.set_cons_zero, List.set_cons_succ]); first | (go_wp2_with fail; exact ⟨rfl, rfl, Below.refl _ _⟩))
        apply Exists.intro
        refine And.intro ?_ ?_
        · (intro W hW; (try simp only [Act.put, List.setIfInBounds_toArray, List.set_cons_zero, List.set_cons_succ]); first | (go_wp2_with fail; exact ⟨rfl, rfl, Below.refl _ _⟩))
        apply Exists.intro
        refine And.intro ?_ ?_
        · (intro W hW; (try simp only [Act.put, List.setIfInBounds_toArray, List.set_cons_zero, List.set_cons_succ]); first | (go_wp2_with fail; exact ⟨rfl, rfl, Below.refl _ _⟩))
        apply Exists.intro
        refine And.intro ?_ ?_
        · (intro W hW; (try simp only [Act.put, List.setIfInBounds_toArray, List.set_cons_zero, List.set_cons_succ]); first | (obtain ⟨hcW, hfW⟩ := bcell hW; have hsW := hW.size; (try simp at hsW); (try have hsW0 := lt_of_succ_le hsW); (try (have hsW1 := lt_pred hsW; (try (have hsW2 := lt_pred hsW1)))); go_wp2_with fail; exact ⟨rfl, rfl, Below.refl _ _⟩))
        apply Exists.intro
        refine And.intro ?_ ?_
        · (intro W hW; (try simp only [Act.put, List.setIfInBounds_toArray, List.set_cons_zero, List.set_cons_succ]); first | (go_wp2_with fail; exact ⟨rfl, rfl, Below.refl _ _⟩))
        apply Exists.intro
        refine And.intro ?_ ?_
        · (intro W hW; (try simp only [Act.put, List.setIfInBounds_toArray, List.set_cons_zero, List.set_cons_succ]); first | (go_wp2_with fail; exact ⟨rfl, rfl, Below.refl _ _⟩))
        apply Exists.intro
        refine And.intro ?_ ?_
        · (intro W hW; (try simp only [Act.put, List.setIfInBounds_toArray, List.set_cons_zero, List.set_cons_succ]); first | (go_wp2_with fail; exact ⟨rfl, rfl, Below.refl _ _⟩))
        apply Exists.intro
        refine And.intro ?_ ?_
        · (intro W hW; (try simp only [Act.put, List.setIfInBounds_toArray, List.set_cons_zero, List.set_cons_succ]); first | (obtain ⟨hcW, hfW⟩ := bcell hW; have hsW := hW.size; (try simp at hsW); (try have hsW0 := lt_of_succ_le hsW); (try (have hsW1 := lt_pred hsW; (try (have hsW2 := lt_pred hsW1)))); go_wp2_with fail; exact ⟨rfl, rfl, Below.refl _ _⟩))
        apply Exists.intro
        refine And.intro ?_ ?_
        · (intro W hW; (try simp only [Act.put, List.setIfInBounds_toArray, List.set_cons_zero, List.set_cons_succ]); first | (go_wp2_with fail; exact ⟨rfl, rfl, Below.refl _ _⟩))
        apply Exists.intro
        refine And.intro ?_ ?_
        · (intro W hW; (try simp only [Act.put, List.setIfInBounds_toArray, List.set_cons_zero, List.set_cons_succ]); first | (go_wp2_with fail; exact ⟨rfl, rfl, Below.refl _ _⟩))
        apply Exists.intro
        refine And.intro ?_ ?_
        · (intro W hW; (try simp only [Act.put, List.setIfInBounds_toArray, List.set_cons_zero, List.set_cons_succ]); first | (obtain ⟨hcW, hfW⟩ := bcell hW; have hsW := hW.size; (try simp at hsW); (try have hsW0 := lt_of_succ_le hsW); (try (have hsW1 := lt_pred hsW; (try (have hsW2 := lt_pred hsW1)))); go_wp2_with fail; exact ⟨rfl, rfl, Below.refl _ _⟩))
        intro wq hbwq
        (try simp only [Act.put, List.setIfInBounds_toArray, List.set_cons_zero, List.set_cons_succ])
        (try simp only [List.drop_succ_cons, List.drop_zero])
        have HRq := Lib.hid (HR1.out.below hbwq)
        have HLq := Lib.hid (HL1.out.same (Aside.of_below (S := fun q => q = b) hbwq) (fun q hq => .inl hq) hlb)
        have HMq := Lib.hid (HM1.out.carry hbwq.size (fun q h1 h2 => hbwq.block q h2))
        have hsq := hbwq.size
        clear a0 a1 a2 a3 a4 a5 a6 af d1 hbwq lg
        obtain ⟨y0, y1, y2, y3, y4, y5, yf⟩ := row6 HLq.out.map
        obtain ⟨x0, x1, x2, x3, x4, x5, xf⟩ := row6 HLq.out.zero
        have ly := row_lt HLq.out.map
        have lz := row_lt HLq.out.zero
        have hkz : key.size ≤ 9223372036854775807 := by omega
        by_cases hw4 : 400 < key.size
        · have d8 : decide ((400 : Int) < key.size) = true := decide_eq_true (by omega)
          have HF := Lib.hid (show r = .bad (badF L E 8 p) from HJ2.out.trans (readP_wide HX.out HXk.out (by rw [← HKey.out]; exact hw4)))
          clear hw4
          go_wp2_with fail
          refine (c_rs_bad_new L E 8 pl b p m flt0 _ HRq.out rfl).mono ?_
          rintro e w3 ⟨rfl, hR3, hA3⟩
          have HR3 := Lib.hid (show RdAtS L E b p m (badF L E 8 p) w3 by unfold badF; rw [← HP.out]; exact hR3)
          have HL3 := Lib.hid (HLq.out.same hA3 (fun q hq => .inl hq) hlb)
          (try clear x0 x1 x2 x3 x4 x5 xf y0 y1 y2 y3 y4 y5 yf)
          obtain ⟨x0, x1, x2, x3, x4, x5, xf⟩ := row6 HL3.out.zero
          have l0 := row_lt HL3.out.zero
          clear hR3 hA3
          go_wp2_with fail
          exact bodyPost_ret (v := .agg #[.int .i64 0, .bool false, .int .i64 0, .string ⟨#[]⟩, .slice none 0 0, .slice none 0 0]) (by simp only [results, Tryz.results63]; go_simp) rfl (ValE.bad HF.out (BadM.finZ hlb HL3.out HR3.out (by omega) (by repeat (first | (with_reducible exact Aside.refl _ _) | ((with_reducible refine aside_set ?_ ?_); (focus (simp; done))) | (with_reducible refine aside_alloc ?_)))))
        · have d8 : decide ((400 : Int) < key.size) = false := decide_eq_false (by omega)
          have HSz := Lib.hid (show ¬ 400 < x'.text.size by rw [← HKey.out]; exact hw4)
          have HC := Lib.hid ((HMq.out.tree (wF := wq) (S := fun q => w.heap.size + 2 ≤ q ∧ q < wq.heap.size) (fun _ _ _ => rfl) (fun b h1 h2 => ⟨h1, h2⟩)).toC (fun _ h => h))
          obtain ⟨kz, hkz⟩ : ∃ z, z = keyI (tMap ks acc) key := ⟨_, rfl⟩
          have HKz := Lib.hid hkz
          clear hw4 hkz
          go_wp2_with fail
          refine (c_spec_KeyAt _ (tMap ks acc) _ key _ _ HC.out).mono ?_
          rintro e w4 ⟨rfl, hb4⟩
          rw [← HKz.out]
          have HR4 := Lib.hid (HRq.out.below hb4)
          have HL4 := Lib.hid (HLq.out.same (Aside.of_below (S := fun q => q = b) hb4) (fun q hq => .inl hq) hlb)
          have HM4 := Lib.hid (HMq.out.carry hb4.size (fun q h1 h2 => hb4.block q h2))
          have hs4 := hb4.size
          clear hb4 x0 x1 x2 x3 x4 x5 xf y0 y1 y2 y3 y4 y5 yf
          rcases hhas : hasS ks key with _ | _
          · have HNo := Lib.hid hhas
            have HNc := Lib.hid (show ks.contains x'.text = false by rw [contains_hasS, ← HKey.out]; exact hhas)
            obtain rfl : kz = -1 := HKz.out.trans (key_no hhas)
            obtain ⟨A, c, hbx, -, -⟩ := HR4.out
            unfold rdC at hbx
            obtain ⟨a0, a1, a2, a3, a4, a5, a6, af⟩ := row7r hbx
            have lb4 := row_lt hbx
            clear hbx hhas
            go_upto_region 16 with fail
            obtain ⟨w5, hw5⟩ : ∃ W, W = w4.setCell ⟨b, 1, none⟩ (.int .i64 ((p : Int) + 1)) := ⟨_, rfl⟩
            have hA5 : Aside (fun q => q = b) w4 w5 := by rw [hw5]; exact aside_set rfl (Aside.refl _ _)
            have hR5 : RdAtS L E b (p + 1) m flt0 w5 := RdAtS.poke HR4.out hA5 (fun A c h => by rw [hw5]; unfold rdC at h ⊢; exact set7_1 h)
            rw [← hw5]
            have HR5 := Lib.hid hR5
            have HL5 := Lib.hid (HL4.out.same hA5 (fun q hq => .inl hq) hlb)
            have HM5 := Lib.hid (HM4.out.carry hA5.size (fun q h1 h2 => hA5.block q h2 (by omega)))
            have hs5 := hA5.size
            clear a0 a1 a2 a3 a4 a5 a6 af hw5 hA5 hR5
            by_cases hk5 : kindAt L (p + 1) = 5
            · have HK5 := Lib.hid hk5
              have hpl3 := kindAt_lt (L := L) (p := p + 1) (by omega)
              clear hk5
              go_wp2_with fail
              refine (c_rs_want_yes L E 5 b (p + 1) m flt0 _ (by omega) HR5.out HK5.out).mono ?_
              rintro e w6 ⟨rfl, hR6, hA6⟩
              have HR6 := Lib.hid (show RdAtS L E b (p + 2) m flt0 w6 from hR6)
              have HL6 := Lib.hid (HL5.out.same hA6 (fun q hq => .inl hq) hlb)
              have HM6 := Lib.hid (HM5.out.carry hA6.size (fun q h1 h2 => hA6.block q h2 (by omega)))
              have hs6 := hA6.size
              obtain ⟨A, c, hbx, -, -⟩ := HR6.out
              unfold rdC at hbx
              obtain ⟨a0, a1, a2, a3, a4, a5, a6, af⟩ := row7r hbx
              have lb6 := row_lt hbx
              have a4' : w6.cell? ⟨b, 4, none⟩ = some (.int .i64 0) := a4
              have hne2 : needJ L (p + 2) (.value dd) ≤ k1 := by have := HNl.out; unfold needJ; simp only; omega
              have hgood := readJ_good L E k1 (.value dd) (p + 2) m (by omega) hm3 hne2
              have HNe2 := Lib.hid hne2
              have hiks := posK_le ks key
              have hp2 : p + 2 ≤ L.length := by omega
              obtain ⟨i, hi⟩ : ∃ i, i = posK ks key := ⟨_, rfl⟩
              have HI := Lib.hid hi
              rw [← hi] at hiks
              clear hne2 hi hR6 hA6 hbx a4
              go_wp2_with fail
              refine (Hv.out k1 hk1n dd (p + 2) m _ hdd1 hdd9 hp2 hm3 HNe2.out HR6.out).mono ?_
              intro e w7 hv7
              rcases hq : readJ L E k1 (.value dd) (p + 2) m with f | ⟨t7, q, m'⟩
              · have hf0 : f.code ≠ 0 := by rw [hq] at hgood; exact hgood
                obtain ⟨u0, u1, u2, u3, U4, u4, u44, U5, u5, u55, p7, m7, rfl, hR7, hp7, hA7⟩ := ValE.isBad hq hv7
                have HJ6 := Lib.hid (show r = .bad f from HJ2.out.trans (readP_bad HX.out HXk.out HSz.out HNc.out HK5.out (by rw [← HDD.out]; exact hq)))
                have HR7 := Lib.hid hR7
                have HL7 := Lib.hid (HL6.out.same hA7 (fun q hq => .inl hq) hlb)
                clear hq hgood hv7 a0 a1 a2 a3 a4' a5 a6 af
                obtain ⟨z, hz⟩ : ∃ z, z = f.code := ⟨_, rfl⟩
                have hf1 := hf0
                rw [← hz] at hf1
                have dz : (z != 0) = true := bne_iff_ne.2 hf1
                obtain ⟨A, c, hbx, -, -⟩ := HR7.out
                unfold rdC at hbx
                obtain ⟨a0, a1, a2, a3, a4, a5, a6, af⟩ := row7r hbx
                have lb7 := row_lt hbx
                rw [← hz] at a4
                obtain ⟨x0, x1, x2, x3, x4, x5, xf⟩ := row6 HL7.out.zero
                obtain ⟨y0, y1, y2, y3, y4, y5, yf⟩ := row6 HL7.out.map
                have l0 := row_lt HL7.out.zero
                have l1 := row_lt HL7.out.map
                clear hR7 hA7 hbx hz hf1 hf0
                go_wp2_with fail
                exact bodyPost_ret (v := .agg #[.int .i64 6, .bool false, .int .i64 0, .string ⟨#[]⟩, .slice KA ks.length kc, .slice VA acc.length vc]) (by simp only [results, Tryz.results63]; go_simp) rfl (ValE.bad HJ6.out (BadM.finS hlb HL7.out HR7.out hp7 (by repeat (first | (with_reducible exact Aside.refl _ _) | ((with_reducible refine aside_set ?_ ?_); (focus (simp; done))) | (with_reducible refine aside_alloc ?_)))))
              · rw [hq] at hgood
                obtain ⟨hg1, hg2, hg3⟩ := hgood
                obtain ⟨cs7, rfl, hO7, hR7, hA7⟩ := ValE.isGood hq hv7
                have HO7 := Lib.hid hO7
                obtain ⟨U4, u44, U5, u55, rfl, -⟩ := hO7.flat
                have HJ6 := Lib.hid (show r = if kindAt L q = 2 then .good (tMap (insL ks i key) (insL acc i t7)) (q + 1) m' else if kindAt L q = 6 then readJ L E k1 (.pairs d (insL ks i key) (insL acc i t7)) (q + 1) m' else .bad (badF L E 4 q) by rw [HJ2.out, readP_good HX.out HXk.out HSz.out HNc.out HK5.out (by rw [← HDD.out]; exact hq), HI.out, HKey.out])
                have HR7 := Lib.hid hR7
                have HL7 := Lib.hid (HL6.out.same hA7 (fun q hq => .inl hq) hlb)
                have HM7 := Lib.hid (HM6.out.carry (Nat.le_refl _) (fun q h1 h2 => hA7.block q h2 (by omega)))
                have hs7 := hA7.size
                clear hq hv7 a0 a1 a2 a3 a4' a5 a6 af hO7 hR7 hA7
                obtain ⟨A, c, hbx, -, -⟩ := HR7.out
                unfold rdC at hbx
                obtain ⟨a0, a1, a2, a3, a4, a5, a6, af⟩ := row7r hbx
                have lb7 := row_lt hbx
                have a4' : w7.cell? ⟨b, 4, none⟩ = some (.int .i64 0) := a4
                clear hbx a4
                go_upto_region 22 with fail
                obtain ⟨w8, hw8⟩ : ∃ W, W = w7.alloc (.cells #[.int .i64 t7.kind, .bool t7.flag, .int .i64 t7.num, .string t7.text, .slice U4 t7.keys.length u44, .slice U5 t7.kids.length u55] 27) := ⟨_, rfl⟩
                have hb8 : Below w7.heap.size w7 w8 := by rw [hw8]; exact bel
                have X8 : w8.heap[w7.heap.size]? = some (.cells #[.int .i64 t7.kind, .bool t7.flag, .int .i64 t7.num, .string t7.text, .slice U4 t7.keys.length u44, .slice U5 t7.kids.length u55] 27 (0, 0)) := by rw [hw8]; exact heap_at rfl
                rw [← hw8]
                have HL8 := Lib.hid (HL7.out.same (Aside.of_below (S := fun q => q = b) hb8) (fun q hq => .inl hq) hlb)
                have HR8 := Lib.hid (HR7.out.below hb8)
                have HM8 := Lib.hid (HM7.out.carry (Nat.le_refl _) (fun q h1 h2 => hb8.block q (by omega)))
                have HO8 := Lib.hid (HO7.out.carry (fun x hx => hb8.block x hx.2) (fun x hx => hx))
                have hs8 := hb8.size
                clear a0 a1 a2 a3 a4' a5 a6 af hw8 hb8
                obtain ⟨v0, v1, v2, v3, v4, v5, vf⟩ := row6 X8
                obtain ⟨y0, y1, y2, y3, y4, y5, yf⟩ := row6 HL8.out.map
                have ly8 := row_lt HL8.out.map
                have lx8 := row_lt X8
                have hlac : ks.length ≤ 1048576 := by omega
                clear X8
                go_wp2_with fail
                refine (c_layG (i := i) HM8.out.rows (HM8.out.len.trans HAC.out) HM8.out.size hlac HI.out HSo.out).mono ?_
                rintro e w9 ⟨vk', vl', rfl, hM9, hb9⟩
                have HMG := Lib.hid (MapG.fresh (i := i) HM8.out (by omega) (by omega) (by have := HAC.out; omega) (HO8.out.up (show 10 - dd ≤ 9 - d by have := HDD.out; omega)) (fun x hx => ⟨hx.1, by have := hx.2; omega⟩) (by omega) hb9 hM9)
                have HL9 := Lib.hid (HL8.out.same (Aside.of_below (S := fun q => q = b) hb9) (fun q hq => .inl hq) hlb)
                have HR9 := Lib.hid (HR8.out.below hb9)
                obtain ⟨K9, k9, rfl⟩ := own_form hM9.keys
                obtain ⟨V9, v9, rfl⟩ := own_form hM9.kids
                have hlk9 : (insL ks i key).length = ks.length + 1 := ins_len hiks
                have hlv9 : (insL ess i [Value.int .i64 t7.kind, .bool t7.flag, .int .i64 t7.num, .string t7.text, .slice U4 t7.keys.length u44, .slice U5 t7.kids.length u55]).length = ks.length + 1 := by rw [ins_len (by rw [HM8.out.len, HAC.out]; exact hiks), HM8.out.len, HAC.out]
                have hla9 : (insL acc i t7).length = ks.length + 1 := by rw [ins_len (by rw [HAC.out]; exact hiks), HAC.out]
                rw [hlk9, hlv9]
                rw [hlk9, hlv9] at HMG
                have HSN := Lib.hid (show SortK (insL ks i key) by rw [HI.out]; exact ins_sorted HSo.out HNo.out)
                have HKN := Lib.hid (And.intro hlk9 hla9)
                have hs9 := hb9.size
                clear v0 v1 v2 v3 v4 v5 vf y0 y1 y2 y3 y4 y5 yf hlk9 hlv9 hla9 hM9 hb9
                obtain ⟨y0, y1, y2, y3, y4, y5, yf⟩ := row6 HL9.out.map
                have ly9 := row_lt HL9.out.map
                go_upto_region 23 with fail
                obtain ⟨w10, hw10⟩ : ∃ W, W = (((((w9.setCell ⟨w.heap.size + 1, 0, none⟩ (.int .i64 6)).setCell ⟨w.heap.size + 1, 1, none⟩ (.bool false)).setCell ⟨w.heap.size + 1, 2, none⟩ (.int .i64 0)).setCell ⟨w.heap.size + 1, 3, none⟩ (.string ⟨#[]⟩)).setCell ⟨w.heap.size + 1, 4, none⟩ (.slice K9 (ks.length + 1) k9)).setCell ⟨w.heap.size + 1, 5, none⟩ (.slice V9 (ks.length + 1) v9) := ⟨_, rfl⟩
                rw [← hw10]
                have hA10 : Aside (fun q => q = w.heap.size + 1) w9 w10 := by rw [hw10]; exact aside_set rfl (aside_set rfl (aside_set rfl (aside_set rfl (aside_set rfl (aside_set rfl (Aside.refl _ _))))))
                have HL10 := Lib.hid (show PBox b w w10 (.slice K9 (ks.length + 1) k9) (.slice V9 (ks.length + 1) v9) by rw [hw10]; exact HL9.out.all)
                have HR10 := Lib.hid (HR9.out.past hA10 (fun q hq => by omega))
                have HM10 := Lib.hid (HMG.out.carry hA10.size (fun x h1 h2 => hA10.block x h2 (by omega)))
                obtain ⟨t2, ht2⟩ : ∃ z, z = kindAt L q := ⟨_, rfl⟩
                have HT2 := Lib.hid ht2
                obtain ⟨pl2, hpl2⟩ : ∃ z, z = placeAt L E q := ⟨_, rfl⟩
                have HP2 := Lib.hid hpl2
                clear y0 y1 y2 y3 y4 y5 yf hw10 hA10 hpl2
                go_wp2_with fail
                refine (c_rs_next L E b q m' flt0 _ (by omega) HR10.out).mono ?_
                rintro e w11 ⟨rfl, hb11⟩
                rw [← HT2.out, ← HP2.out]
                have HR11 := Lib.hid (HR10.out.below hb11)
                have HL11 := Lib.hid (HL10.out.same (Aside.of_below (S := fun q => q = b) hb11) (fun q hq => .inl hq) hlb)
                have HM11 := Lib.hid (HM10.out.carry hb11.size (fun x h1 h2 => hb11.block x h2))
                clear hb11
                by_cases hk6 : kindAt L q = 6
                · have HF := Lib.hid (show r = readJ L E k1 (.pairs d (insL ks i key) (insL acc i t7)) (q + 1) m' by rw [HJ6.out, if_neg (by omega), if_pos hk6])
                  have hql := kindAt_lt (L := L) (p := q) (by omega)
                  have HNx := Lib.hid (show needJ L (q + 1) (.pairs d (insL ks i key) (insL acc i t7)) ≤ k1 by have := HNl.out; unfold needJ; simp only; omega)
                  obtain rfl : t2 = 6 := ht2.trans hk6
                  clear hk6 ht2
                  obtain ⟨A, c, hbx, -, -⟩ := HR11.out
                  unfold rdC at hbx
                  obtain ⟨a0, a1, a2, a3, a4, a5, a6, af⟩ := row7r hbx
                  have lb11 := row_lt hbx
                  clear hbx
                  go_upto_region 25 with fail
                  obtain ⟨w12, hw12⟩ : ∃ W, W = w11.setCell ⟨b, 1, none⟩ (.int .i64 ((q : Int) + 1)) := ⟨_, rfl⟩
                  have hA12 : Aside (fun q => q = b) w11 w12 := by rw [hw12]; exact aside_set rfl (Aside.refl _ _)
                  have hR12 : RdAtS L E b (q + 1) m' flt0 w12 := RdAtS.poke HR11.out hA12 (fun A c h => by rw [hw12]; unfold rdC at h ⊢; exact set7_1 h)
                  go_wp2_with fail
                  go_roundw
                  case rel => rw [← hw12]; exact ⟨⟨_, rfl⟩, ⟨_, rfl⟩, insL ks i key, insL acc i t7, q + 1, m', k1, ⟨_, _, _, _, HL11.out.same hA12 (fun q hq => .inl hq) hlb, HM11.out.carry hA12.size (fun x h1 h2 => hA12.block x h2 (by omega)), hR12⟩, by omega, hg3, by rw [HKN.out.1]; omega, by rw [HKN.out.1, HKN.out.2], HSN.out, HNx.out, by omega, HF.out⟩
                  case measure => rw [← hw12, hR12.meas, HRr.out.meas, if_pos (show flt0.code = 0 from rfl), if_pos (show flt0.code = 0 from rfl)]; omega
                · have d6 : (t2 != 6) = true := bne_iff_ne.2 (fun h => hk6 (ht2.symm.trans h))
                  by_cases hk2 : kindAt L q = 2
                  · have HF := Lib.hid (show r = .good (tMap (insL ks i key) (insL acc i t7)) (q + 1) m' by rw [HJ6.out, if_pos hk2])
                    have HK2 := Lib.hid hk2
                    clear hk2 hk6 ht2
                    go_wp2_with fail
                    refine (c_rs_want_yes L E 2 b q m' flt0 _ (by omega) HR11.out HK2.out).mono ?_
                    rintro e w12 ⟨rfl, hR12, hA12⟩
                    have HL12 := Lib.hid (HL11.out.same hA12 (fun q hq => .inl hq) hlb)
                    have HR12 := Lib.hid hR12
                    have HM12 := Lib.hid (HM11.out.carry hA12.size (fun x h1 h2 => hA12.block x h2 (by omega)))
                    obtain ⟨x0, x1, x2, x3, x4, x5, xf⟩ := row6 HL12.out.zero
                    obtain ⟨y0, y1, y2, y3, y4, y5, yf⟩ := row6 HL12.out.map
                    have l0 := row_lt HL12.out.zero
                    have l1 := row_lt HL12.out.map
                    clear hR12 hA12
                    go_wp2_with fail
                    exact bodyPost_ret (v := .agg #[.int .i64 6, .bool false, .int .i64 0, .string ⟨#[]⟩, .slice K9 (ks.length + 1) k9, .slice V9 (ks.length + 1) v9]) (by simp only [results, Tryz.results63]; go_simp) rfl (ValE.good HF.out (GoodM.finS (nT := nd) hlb HL12.out (HN9.out ▸ HM12.out) HR12.out (by repeat (first | (with_reducible exact Aside.refl _ _) | ((with_reducible refine aside_set ?_ ?_); (focus (simp; done))) | (with_reducible refine aside_alloc ?_)))))
                  · have HF := Lib.hid (show r = .bad (badF L E 4 q) by rw [HJ6.out, if_neg hk2, if_neg hk6])
                    have HK2 := Lib.hid hk2
                    clear hk2 hk6 ht2
                    go_wp2_with fail
                    refine (c_rs_want_no L E 2 b q m' flt0 _ (by omega) HR11.out rfl HK2.out).mono ?_
                    rintro e w12 ⟨rfl, hR12, hA12⟩
                    have HL12 := Lib.hid (HL11.out.same hA12 (fun q hq => .inl hq) hlb)
                    have HR12 := Lib.hid hR12
                    obtain ⟨x0, x1, x2, x3, x4, x5, xf⟩ := row6 HL12.out.zero
                    obtain ⟨y0, y1, y2, y3, y4, y5, yf⟩ := row6 HL12.out.map
                    have l0 := row_lt HL12.out.zero
                    have l1 := row_lt HL12.out.map
                    clear hR12 hA12
                    go_wp2_with fail
                    exact bodyPost_ret (v := .agg #[.int .i64 6, .bool false, .int .i64 0, .string ⟨#[]⟩, .slice K9 (ks.length + 1) k9, .slice V9 (ks.length + 1) v9]) (by simp only [results, Tryz.results63]; go_simp) rfl (ValE.bad HF.out (BadM.finS hlb HL12.out HR12.out hg2 (by repeat (first | (with_reducible exact Aside.refl _ _) | ((with_reducible refine aside_set ?_ ?_); (focus (simp; done))) | (with_reducible refine aside_alloc ?_)))))
            · have HK5 := Lib.hid hk5
              have HF := Lib.hid (show r = .bad (badF L E 4 (p + 1)) from HJ2.out.trans (readP_colon HX.out HXk.out HSz.out HNc.out hk5))
              clear hk5
              go_wp2_with fail
              refine (c_rs_want_no L E 5 b (p + 1) m flt0 _ (by omega) HR5.out rfl HK5.out).mono ?_
              rintro e w6 ⟨rfl, hR6, hA6⟩
              have HR6 := Lib.hid hR6
              have HL6 := Lib.hid (HL5.out.same hA6 (fun q hq => .inl hq) hlb)
              obtain ⟨A, c, hbx, -, -⟩ := HR6.out
              unfold rdC at hbx
              obtain ⟨a0, a1, a2, a3, a4, a5, a6, af⟩ := row7r hbx
              have lb6 := row_lt hbx
              have a4' : w6.cell? ⟨b, 4, none⟩ = some (.int .i64 4) := a4
              obtain ⟨x0, x1, x2, x3, x4, x5, xf⟩ := row6 HL6.out.zero
              obtain ⟨y0, y1, y2, y3, y4, y5, yf⟩ := row6 HL6.out.map
              have l0 := row_lt HL6.out.zero
              have l1 := row_lt HL6.out.map
              clear hR6 hA6 hbx a4
              go_wp2_with fail
              exact bodyPost_ret (v := .agg #[.int .i64 6, .bool false, .int .i64 0, .string ⟨#[]⟩, .slice KA ks.length kc, .slice VA acc.length vc]) (by simp only [results, Tryz.results63]; go_simp) rfl (ValE.bad HF.out (BadM.finS hlb HL6.out HR6.out (by omega) (by repeat (first | (with_reducible exact Aside.refl _ _) | ((with_reducible refine aside_set ?_ ?_); (focus (simp; done))) | (with_reducible refine aside_alloc ?_)))))
          · have HF := Lib.hid (show r = .bad (badF L E 5 p) from HJ2.out.trans (readP_twice HX.out HXk.out HSz.out (by rw [contains_hasS, ← HKey.out]; exact hhas)))
            obtain ⟨kn, hkn⟩ := key_yes (l := acc) hhas
            obtain rfl : kz = (kn : Int) := HKz.out.trans hkn
            have dk : decide ((0 : Int) ≤ kn) = true := decide_eq_true (by omega)
            clear hkn hhas
            go_wp2_with fail
            refine (c_rs_bad_new L E 5 pl b p m flt0 _ HR4.out rfl).mono ?_
            rintro e w3 ⟨rfl, hR3, hA3⟩
            have HR3 := Lib.hid (show RdAtS L E b p m (badF L E 5 p) w3 by unfold badF; rw [← HP.out]; exact hR3)
            have HL3 := Lib.hid (HL4.out.same hA3 (fun q hq => .inl hq) hlb)
            (try clear x0 x1 x2 x3 x4 x5 xf y0 y1 y2 y3 y4 y5 yf)
            obtain ⟨x0, x1, x2, x3, x4, x5, xf⟩ := row6 HL3.out.zero
            have l0 := row_lt HL3.out.zero
            clear hR3 hA3
            go_wp2_with fail
            exact bodyPost_ret (v := .agg #[.int .i64 0, .bool false, .int .i64 0, .string ⟨#[]⟩, .slice none 0 0, .slice none 0 0]) (by simp only [results, Tryz.results63]; go_simp) rfl (ValE.bad HF.out (BadM.finZ hlb HL3.out HR3.out (by omega) (by repeat (first | (with_reducible exact Aside.refl _ _) | ((with_reducible refine aside_set ?_ ?_); (focus (simp; done))) | (with_reducible refine aside_alloc ?_)))))
      · have HF := Lib.hid (show r = .bad (badF L E 4 p) from HJ2.out.trans (readP_kind hkk))
        have dt : (t != 7) = true := bne_iff_ne.2 (fun h => hkk (ht.symm.trans h))
        clear hkk ht
        go_wp2_with fail
        refine (c_rs_next L E b p m flt0 _ (by omega) HRr.out).mono ?_
        rintro e w1 ⟨rfl, hb1⟩
        rw [← HT.out, ← HP.out]
        have HR1 := Lib.hid (HRr.out.below hb1)
        have HL1 := Lib.hid (HLb.out.same (Aside.of_below (S := fun q => q = b) hb1) (fun q hq => .inl hq) hlb)
        clear a0 a1 a2 a3 a4' a5 a6 af hb1
        go_wp2_with fail
        refine (c_rs_bad_new L E 4 pl b p m flt0 _ HR1.out rfl).mono ?_
        rintro e w3 ⟨rfl, hR3, hA3⟩
        have HR3 := Lib.hid (show RdAtS L E b p m (badF L E 4 p) w3 by unfold badF; rw [← HP.out]; exact hR3)
        have HL3 := Lib.hid (HL1.out.same hA3 (fun q hq => .inl hq) hlb)
        (try clear x0 x1 x2 x3 x4 x5 xf y0 y1 y2 y3 y4 y5 yf)
        obtain ⟨x0, x1, x2, x3, x4, x5, xf⟩ := row6 HL3.out.zero
        have l0 := row_lt HL3.out.zero
        clear hR3 hA3
        go_wp2_with fail
        exact bodyPost_ret (v := .agg #[.int .i64 0, .bool false, .int .i64 0, .string ⟨#[]⟩, .slice none 0 0, .slice none 0 0]) (by simp only [results, Tryz.results63]; go_simp) rfl (ValE.bad HF.out (BadM.finZ hlb HL3.out HR3.out (by omega) (by repeat (first | (with_reducible exact Aside.refl _ _) | ((with_reducible refine aside_set ?_ ?_); (focus (simp; done))) | (with_reducible refine aside_alloc ?_)))))
end Go.Proofs.YtffelpdefjkeaaaGreatDoor
namespace Go.Proofs.YtffelpdefjkeaaaGreatDoor
open Go.RowKit
theorem quotR_size (s : ByteArray) : ∀ (k j : Nat) (acc : List UInt8), (quotR s k j acc).1.size ≤ acc.length + 4 * (s.size - j)
  | 0, j, acc => by show (0 : Nat) ≤ _; omega
  | k + 1, j, acc => by
    unfold quotR
    by_cases h : j < s.size
    · rw [if_pos h]
      by_cases h1 : byteI s j = 34
      · rw [if_pos h1]
        show acc.toArray.size ≤ _
        rw [List.size_toArray]
        omega
      · rw [if_neg h1]
        by_cases h2 : (quotN s j).2 < 0
        · rw [if_pos h2]; show (0 : Nat) ≤ _; omega
        · rw [if_neg h2]
          have h3 := quotR_size s k (quotN s j).2.toNat (acc ++ (textB (quotN s j).1).data.toList)
          have h4 := (quotN_next s j).1
          have h5 := textB_size (quotN s j).1
          have h6 : (textB (quotN s j).1).data.toList.length = (textB (quotN s j).1).size := by rw [Array.length_toList]; rfl
          rw [List.length_append, h6] at h3
          omega
    · rw [if_neg h]; show (0 : Nat) ≤ _; omega
structure SignOk (x : SignD) : Prop where
  kind : 1 ≤ x.kind ∧ x.kind ≤ 11
  num : I64 x.num
  text : x.text.size ≤ 1048576
theorem sign_ok {s : ByteArray} {i : Nat} (hs : s.size ≤ 20000) (h : ¬ (signB s i).2 < 0) : SignOk (signB s i).1 := by
  have h0 : I64 0 := by unfold I64; decide
  have he : ByteArray.size ⟨#[]⟩ ≤ 1048576 := by decide
  unfold signB at h ⊢
  by_cases c0 : i < s.size
  · rw [if_pos c0] at h ⊢
    have hm := markI_range (byteI s i)
    by_cases c1 : markI (byteI s i) ≠ 0
    · rw [if_pos c1]; exact ⟨by show 1 ≤ markI (byteI s i) ∧ markI (byteI s i) ≤ 11; omega, h0, he⟩
    · rw [if_neg c1] at h ⊢
      by_cases c2 : byteI s i = 34
      · rw [if_pos c2] at h ⊢
        by_cases c3 : (quotB s i).2 < 0
        · rw [if_pos c3] at h; exact absurd (show (-1 : Int) < 0 by decide) h
        · rw [if_neg c3]
          refine ⟨by show (1 : Int) ≤ 7 ∧ (7 : Int) ≤ 11; decide, h0, ?_⟩
          show (quotB s i).1.size ≤ 1048576
          unfold quotB
          rw [if_pos c0, if_pos c2]
          have := quotR_size s (s.size - (i + 1)) (i + 1) []
          unfold quotG
          simp at this
          omega
      · rw [if_neg c2] at h ⊢
        by_cases c4 : byteI s i = 45 ∨ figI (byteI s i) = true
        · rw [if_pos c4] at h ⊢
          by_cases c3 : (wholeB s i).2 < 0
          · rw [if_pos c3] at h; exact absurd (show (-1 : Int) < 0 by decide) h
          · rw [if_neg c3]
            have := (wholeB_next s i).2
            exact ⟨by show (1 : Int) ≤ 8 ∧ (8 : Int) ≤ 11; decide, by unfold I64; exact ⟨this.1, this.2⟩, he⟩
        · rw [if_neg c4] at h ⊢
          by_cases c5 : wordB s i wT = true
          · rw [if_pos c5]; exact ⟨by show (1 : Int) ≤ 9 ∧ (9 : Int) ≤ 11; decide, h0, he⟩
          · rw [if_neg c5] at h ⊢
            by_cases c6 : wordB s i wF = true
            · rw [if_pos c6]; exact ⟨by show (1 : Int) ≤ 10 ∧ (10 : Int) ≤ 11; decide, h0, he⟩
            · rw [if_neg c6] at h ⊢
              by_cases c7 : wordB s i wN = true
              · rw [if_pos c7]; exact ⟨by show (1 : Int) ≤ 11 ∧ (11 : Int) ≤ 11; decide, h0, he⟩
              · rw [if_neg c7] at h; exact absurd (show (-1 : Int) < 0 by decide) h
  · rw [if_neg c0] at h; exact absurd (show (-1 : Int) < 0 by decide) h
theorem signsR_ok {s : ByteArray} (hs : s.size ≤ 20000) : ∀ (k j : Nat) (acc : List SignD), (∀ x ∈ acc, SignOk x) → acc.length ≤ j → j ≤ s.size → (∀ x ∈ (signsR s k j acc).1, SignOk x) ∧ (signsR s k j acc).1.length ≤ s.size
  | 0, j, acc, ha, hl, hj => ⟨ha, by show acc.length ≤ _; omega⟩
  | k + 1, j, acc, ha, hl, hj => by
    unfold signsR
    by_cases h : j < s.size
    · rw [if_pos h]
      by_cases h1 : blankI (byteI s j) = true
      · rw [if_pos h1]; exact signsR_ok hs k (j + 1) acc ha (by omega) (by omega)
      · rw [if_neg h1]
        by_cases h2 : (signB s j).2 < 0
        · rw [if_pos h2]; exact ⟨fun x hx => (by cases hx), Nat.zero_le _⟩
        · rw [if_neg h2]
          have h3 := signB_next s j
          refine signsR_ok hs k _ _ (fun x hx => ?_) (by rw [List.length_append]; simp only [List.length_cons, List.length_nil]; omega) (by omega)
          rcases List.mem_append.1 hx with hx | hx
          · exact ha x hx
          · rw [List.mem_singleton] at hx
            subst hx
            exact sign_ok hs h2
    · rw [if_neg h]; exact ⟨ha, by show acc.length ≤ _; omega⟩
theorem signsF_ok (s : ByteArray) : SgOk (signsF s).1 := by
  have h : (∀ x ∈ (signsF s).1, SignOk x) ∧ (signsF s).1.length ≤ 1048576 := by
    unfold signsF
    split
    · rename_i hc
      have hs : s.size ≤ 20000 := by
        rcases Nat.lt_or_ge 20000 s.size with h1 | h1
        · unfold textF at hc
          rw [if_pos h1] at hc
          exact absurd hc (by decide : ¬ (1 : Int) = 0)
        · exact h1
      have := signsR_ok hs (s.size - 0) 0 [] (fun x hx => (by cases hx)) (Nat.le_refl _) (Nat.zero_le _)
      exact ⟨this.1, by have := this.2; unfold signsG; omega⟩
    · exact ⟨fun x hx => (by cases hx), Nat.zero_le _⟩
  exact ⟨h.2, fun i x hx => (h.1 x (List.mem_of_getElem? hx)).kind, fun i x hx => (h.1 x (List.mem_of_getElem? hx)).num, fun i x hx => (h.1 x (List.mem_of_getElem? hx)).text⟩
end Go.Proofs.YtffelpdefjkeaaaGreatDoor
