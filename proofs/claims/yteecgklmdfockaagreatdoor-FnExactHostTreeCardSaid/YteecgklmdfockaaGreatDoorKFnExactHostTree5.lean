/- Written by wip/tools/pack.py: the texts that FnExactHostTree needs, without what it does not need. No conditions. -/
import Derived.Test.YteecgklmdfockaaGreatDoorKFnExactHostTree4
namespace Go.Proofs.YteecgklmdfockaaGreatDoor
open Go.RowKit
/-- A map of texts. -/
def pairT (ks ts : List ByteArray) : TreeD := ⟨6, false, 0, ⟨#[]⟩, ks, ts.map leafD⟩
def optL (b : Bool) (s : ByteArray) : List ByteArray := if b then [s] else []
def taintT (k v : ByteArray) (x : Int) : TreeD := if taintB k v x = true then pairT ([wEffect, wKey] ++ optL (!v.toList.isEmpty) wValue) ([effW x, k] ++ optL (!v.toList.isEmpty) v) else tree0
theorem leafMap_nil {tb : Nat} {w : World} (h : w.heap[tb]? = some (.cells #[.int .i64 6, .bool false, .int .i64 0, .string ⟨#[]⟩, .slice none 0 0, .slice none 0 0] 30 (0, 0))) : LeafMap (tb + 1) tb w [] [] (.slice none 0 0) (.slice none 0 0) :=
  ⟨h, ⟨rfl, .inl ⟨rfl, rfl⟩⟩, ⟨rfl, .inl ⟨rfl, rfl⟩⟩, fun _ h => (by cases h), Nat.lt_succ_self _⟩
theorem mapRows_nil {base : Nat} {w : World} : MapRows base w [] [] (.slice none 0 0) (.slice none 0 0) :=
  ⟨⟨rfl, .inl ⟨rfl, rfl⟩⟩, ⟨rfl, .inl ⟨rfl, rfl⟩⟩, fun _ h => (by cases h), fun _ h => (by cases h)⟩
theorem tree_fin0 {n : Nat} {w wF : World} {T : TreeD} (hT : T = tree0) (hb : Below w.heap.size w wF) : ∃ cs, Ending.returned (.agg #[.int .i64 0, .bool false, .int .i64 0, .string ⟨#[]⟩, .slice none 0 0, .slice none 0 0]) = Ending.returned (.agg cs.toArray) ∧ OwnT (n + 2) (fun b => w.heap.size ≤ b ∧ b < wF.heap.size) wF T cs ∧ Below w.heap.size w wF :=
  ⟨zeroC, rfl, by rw [hT]; exact own_none, hb⟩
theorem tree_finL {n tb t2 : Nat} {w w2 wF : World} {T : TreeD} {ks ts : List ByteArray} {css : List (List Value)} {vk vl : Value} (hT : T = pairT ks ts) (hc : css = ts.map leafC) (hm : LeafMap (tb + 1) tb w2 ks css vk vl) (hF : Aside (fun b => b = t2) w2 wF) (h2 : t2 < tb) (hw2 : w.heap.size ≤ t2) (hks : ∀ k ∈ ks, k.size ≤ 9223372036854775807) (hts : ∀ t ∈ ts, t.size ≤ 9223372036854775807) (hb : Below w.heap.size w w2) :
    ∃ cs, Ending.returned (.agg #[.int .i64 6, .bool false, .int .i64 0, .string ⟨#[]⟩, vk, vl]) = Ending.returned (.agg cs.toArray) ∧ OwnT (n + 2) (fun b => w.heap.size ≤ b ∧ b < wF.heap.size) wF T cs ∧ Below w.heap.size w wF := by
  subst hT hc
  refine ⟨[.int .i64 6, .bool false, .int .i64 0, .string ⟨#[]⟩, vk, vl], rfl, own_texts (base := tb + 1) (ownsRow_carry hm.keys (fun q hq => hF.block q (hm.keys.lt q hq).2 (by have := (hm.keys.lt q hq).1; omega))) (ownsRow_carry hm.kids (fun q hq => hF.block q (hm.kids.lt q hq).2 (by have := (hm.kids.lt q hq).1; omega))) hks hts (fun b h1 h3 => ⟨by omega, h3⟩), hb.trans (hF.below hb.size (fun i hi => by omega))⟩
theorem tree_fin6 {n : Nat} {w wF : World} {T : TreeD} (hT : T = pairT [] []) (hb : Below w.heap.size w wF) : ∃ cs, Ending.returned (.agg #[.int .i64 6, .bool false, .int .i64 0, .string ⟨#[]⟩, .slice none 0 0, .slice none 0 0]) = Ending.returned (.agg cs.toArray) ∧ OwnT (n + 2) (fun b => w.heap.size ≤ b ∧ b < wF.heap.size) wF T cs ∧ Below w.heap.size w wF := by
  subst hT
  exact ⟨[.int .i64 6, .bool false, .int .i64 0, .string ⟨#[]⟩, .slice none 0 0, .slice none 0 0], rfl, own_texts (base := w.heap.size) (ks := []) (ts := []) ⟨rfl, .inl ⟨rfl, rfl⟩⟩ ⟨rfl, .inl ⟨rfl, rfl⟩⟩ (fun _ h => (by cases h)) (fun _ h => (by cases h)) (fun b h1 h3 => ⟨h1, h3⟩), hb⟩
theorem six_set {w : World} {b : Nat} {a0 a1 a2 a3 a4 a5 : Value} {e : TypeId} (v0 v1 v2 v3 v4 v5 : Value) (h : w.heap[b]? = some (.cells #[a0, a1, a2, a3, a4, a5] e (0, 0))) :
    ((((((w.setCell ⟨b, 0, none⟩ v0).setCell ⟨b, 1, none⟩ v1).setCell ⟨b, 2, none⟩ v2).setCell ⟨b, 3, none⟩ v3).setCell ⟨b, 4, none⟩ v4).setCell ⟨b, 5, none⟩ v5).heap[b]? = some (.cells #[v0, v1, v2, v3, v4, v5] e (0, 0)) :=
  heap_setCell_same _ b 5 _ _ _ (heap_setCell_same _ b 4 _ _ _ (heap_setCell_same _ b 3 _ _ _ (heap_setCell_same _ b 2 _ _ _ (heap_setCell_same _ b 1 _ _ _ (heap_setCell_same _ b 0 _ _ _ h)))))
theorem MapRows.carryB {base : Nat} {w w' : World} {ks : List ByteArray} {css : List (List Value)} {vk vl : Value} (h : MapRows base w ks css vk vl) (hb : ∀ q, q < w.heap.size → w'.heap[q]? = w.heap[q]?) : MapRows base w' ks css vk vl :=
  ⟨ownsRow_carry h.keys (fun q hq => hb q (h.keys.lt q hq).2), ownsRow_carry h.kids (fun q hq => hb q (h.kids.lt q hq).2), h.six, h.one⟩
theorem MapRows.aside {base tb : Nat} {w w' : World} {ks : List ByteArray} {css : List (List Value)} {vk vl : Value} (h : MapRows base w ks css vk vl) (hF : Aside (fun b => b = tb) w w') (ht : tb < base) : MapRows base w' ks css vk vl :=
  ⟨ownsRow_carry h.keys (fun q hq => hF.block q (h.keys.lt q hq).2 (by have := (h.keys.lt q hq).1; omega)), ownsRow_carry h.kids (fun q hq => hF.block q (h.kids.lt q hq).2 (by have := (h.kids.lt q hq).1; omega)), h.six, h.one⟩
theorem tree_finM {n B t2 : Nat} {w w2 wF : World} {T : TreeD} {ks ts : List ByteArray} {css : List (List Value)} {vk vl : Value} (hT : T = pairT ks ts) (hc : css = ts.map leafC) (hm : MapRows B w2 ks css vk vl) (hF : Aside (fun b => b = t2) w2 wF) (h2 : t2 < B) (hw2 : w.heap.size ≤ t2) (hks : ∀ k ∈ ks, k.size ≤ 9223372036854775807) (hts : ∀ t ∈ ts, t.size ≤ 9223372036854775807) (hb : Below w.heap.size w w2) :
    ∃ cs, Ending.returned (.agg #[.int .i64 6, .bool false, .int .i64 0, .string ⟨#[]⟩, vk, vl]) = Ending.returned (.agg cs.toArray) ∧ OwnT (n + 2) (fun b => w.heap.size ≤ b ∧ b < wF.heap.size) wF T cs ∧ Below w.heap.size w wF := by
  subst hT hc
  refine ⟨[.int .i64 6, .bool false, .int .i64 0, .string ⟨#[]⟩, vk, vl], rfl, own_texts (base := B) (hm.aside hF h2).keys (hm.aside hF h2).kids hks hts (fun b h1 h3 => ⟨by omega, h3⟩), hb.trans (hF.below hb.size (fun i hi => by omega))⟩
theorem less_ek : lessS wEffect wKey = true := by simp [lessS, wEffect, wKey, ByteArray.toList_eq, Op.bytesLess]
theorem less_ev : lessS wEffect wValue = true := by simp [lessS, wEffect, wValue, ByteArray.toList_eq, Op.bytesLess]
theorem less_kv : lessS wKey wValue = true := by simp [lessS, wKey, wValue, ByteArray.toList_eq, Op.bytesLess]
theorem eff_size (x : Int) : (effW x).size ≤ 9223372036854775807 := by
  unfold effW
  split <;> decide
set_option maxHeartbeats 2000000 in
set_option maxRecDepth 10000 in
theorem c_impl_TaintTree (n : Nat) (k v : ByteArray) (x : Int) (w : World) (hk : k.size ≤ 9223372036854775807) (hv : v.size ≤ 9223372036854775807) : Calls Tryz.prog 35 #[.agg #[.string k, .string v, .int .i64 x]] w fun e w' => ∃ cs, e = .returned (.agg cs.toArray) ∧ OwnT (n + 2) (fun b => w.heap.size ≤ b ∧ b < w'.heap.size) w' (taintT k v x) cs ∧ Below w.heap.size w w' := by
  rcases ho : taintB k v x with _ | _
  · have HT := Lib.hid (show (taintT k v x) = tree0 by unfold taintT; rw [if_neg (by rw [ho]; decide)])
    go_enter Tryz.func35, Tryz.ntmps35
    go_wp2_with fail
    refine (c_impl_TaintOk k v x _ hk hv).mono ?_
    rintro e w1 ⟨rfl, hb⟩
    rw [ho]
    have Z := (hb.block (w.heap.size + 1) (by simp)).trans (heap_at (by simp))
    have hl := row_lt Z
    obtain ⟨x0, x1, x2, x3, x4, x5, xf⟩ := row6 Z
    have Bw : Below w.heap.size w w1 := Below.trans bel (hb.mono (by simp; omega))
    clear Z hb
    go_wp2_with fail
    exact bodyPost_ret (v := .agg #[.int .i64 0, .bool false, .int .i64 0, .string ⟨#[]⟩, .slice none 0 0, .slice none 0 0]) (by simp only [results, Tryz.results35]; go_simp) rfl (tree_fin0 HT.out (Bw.trans (Aside.below (S := fun b => b = w.heap.size + 1) (by repeat (first | (with_reducible exact Aside.refl _ _) | ((with_reducible refine aside_set ?_ ?_); (focus (simp; done))) | (with_reducible refine aside_alloc ?_))) Bw.size (fun i hi => by omega))))
  · rcases h0 : (!v.toList.isEmpty) with _ | _
    · have HT := Lib.hid (show (taintT k v x) = pairT [wEffect, wKey] [(effW x), k] by unfold taintT; rw [if_pos ho, h0]; rfl)
      have Hh0 := Lib.hid h0
      have g0 : v.toList.isEmpty = true := by simpa using h0
      have hks : ∀ s ∈ ([wEffect, wKey] : List ByteArray), s.size ≤ 9223372036854775807 := by intro s hs; simp at hs; rcases hs with rfl | rfl <;> decide
      have hts : ∀ s ∈ ([(effW x), k] : List ByteArray), s.size ≤ 9223372036854775807 := by intro s hs; simp at hs; rcases hs with rfl | rfl <;> first | exact hk | exact hv | exact eff_size x
      have HKS := Lib.hid hks
      have HTS := Lib.hid hts
      clear hks hts
      go_enter Tryz.func35, Tryz.ntmps35
      go_wp2_with fail
      refine (c_impl_TaintOk k v x _ hk hv).mono ?_
      rintro e w1 ⟨rfl, hb⟩
      rw [ho]
      have S1 : w1.heap[w.heap.size]? = some (.cells #[.string k, .string v, .int .i64 x] 64 (0, 0)) := (hb.block w.heap.size (by simp; omega)).trans ((Below.heap_alloc _ _ _ (by simp)).trans (heap_at (by simp)))
      have S2 : w1.heap[w.heap.size + 1]? = some (.cells #[.int .i64 0, .bool false, .int .i64 0, .string ⟨#[]⟩, .slice none 0 0, .slice none 0 0] 30 (0, 0)) := (hb.block (w.heap.size + 1) (by simp)).trans (heap_at (by simp))
      have Bw : Below w.heap.size w w1 := Below.trans bel (hb.mono (by simp; omega))
      have hz := hb.size
      simp at hz
      obtain ⟨x0, x1, x2, xf⟩ := row3 S1
      obtain ⟨y0, y1, y2, y3, y4, y5, yf⟩ := row6 S2
      have l1 := row_lt S1
      have l2 := row_lt S2
      have R1 := Lib.hid S1
      have R2 := Lib.hid S2
      clear S1 S2 hb
      go_wp2_with fail
      refine (c_effectWord x _).mono ?_
      rintro e w2 ⟨rfl, hb⟩
      have L : LeafMap (w1.heap.size + 1) w1.heap.size w2 [] [] (.slice none 0 0) (.slice none 0 0) := leafMap_nil ((hb.block w1.heap.size (by simp)).trans (heap_at (by simp)))
      have Bt : Below w1.heap.size w1 w2 := Below.trans bel (hb.mono (by simp; try omega))
      have ht := hb.size
      simp at ht
      have HL := Lib.hid L
      clear L
      have K1 := Lib.hid R1.out
      have K2 := Lib.hid R2.out
      have S1 := (Bt.block w.heap.size (by omega)).trans K1.out
      have S2 := (Bt.block (w.heap.size + 1) (by omega)).trans K2.out
      clear R1 R2 x0 x1 x2 xf y0 y1 y2 y3 y4 y5 yf l1 l2
      obtain ⟨x0, x1, x2, xf⟩ := row3 S1
      obtain ⟨y0, y1, y2, y3, y4, y5, yf⟩ := row6 S2
      have l1 := row_lt S1
      have l2 := row_lt S2
      have R1 := Lib.hid S1
      have R2 := Lib.hid S2
      clear S1 S2 hb
      go_wp2_with fail
      refine (c_impl_TextTree (effW x) _).mono ?_
      rintro e w3 ⟨rfl, hb⟩
      have L := HL.out.carry hb
      clear HL
      have HL := Lib.hid L
      clear L
      have Bt2 := Bt.trans (hb.mono (by omega))
      clear Bt
      have Bt := Bt2
      clear Bt2
      have ht2 := hb.size
      have ht3 := Nat.le_trans ht ht2
      clear ht ht2
      have ht := ht3
      clear ht3
      have S1 := (Bt.block w.heap.size (by omega)).trans K1.out
      have S2 := (Bt.block (w.heap.size + 1) (by omega)).trans K2.out
      clear R1 R2 x0 x1 x2 xf y0 y1 y2 y3 y4 y5 yf l1 l2
      obtain ⟨x0, x1, x2, xf⟩ := row3 S1
      obtain ⟨y0, y1, y2, y3, y4, y5, yf⟩ := row6 S2
      have l1 := row_lt S1
      have l2 := row_lt S2
      have R1 := Lib.hid S1
      have R2 := Lib.hid S2
      clear S1 S2 hb
      go_wp2_with fail
      refine (c_addLeaf [] [] wEffect (effW x) _ _ w1.heap.size (w1.heap.size + 1) _ HL.out (by omega) (by simp) (by simp)).mono ?_
      rintro e w4 ⟨vk1, vl1, rfl, hL, hb, hzz⟩
      clear HL
      have HL := Lib.hid hL
      clear hL
      have Bt2 := Bt.trans hb
      clear Bt
      have Bt := Bt2
      clear Bt2
      have ht3 := Nat.le_trans ht hzz
      clear ht hzz
      have ht := ht3
      clear ht3
      have S1 := (Bt.block w.heap.size (by omega)).trans K1.out
      have S2 := (Bt.block (w.heap.size + 1) (by omega)).trans K2.out
      clear R1 R2 x0 x1 x2 xf y0 y1 y2 y3 y4 y5 yf l1 l2
      obtain ⟨x0, x1, x2, xf⟩ := row3 S1
      obtain ⟨y0, y1, y2, y3, y4, y5, yf⟩ := row6 S2
      have l1 := row_lt S1
      have l2 := row_lt S2
      have R1 := Lib.hid S1
      have R2 := Lib.hid S2
      clear S1 S2 hb
      go_wp2_with fail
      refine (c_impl_TextTree k _).mono ?_
      rintro e w5 ⟨rfl, hb⟩
      have L := HL.out.carry hb
      clear HL
      have HL := Lib.hid L
      clear L
      have Bt2 := Bt.trans (hb.mono (by omega))
      clear Bt
      have Bt := Bt2
      clear Bt2
      have ht2 := hb.size
      have ht3 := Nat.le_trans ht ht2
      clear ht ht2
      have ht := ht3
      clear ht3
      have S1 := (Bt.block w.heap.size (by omega)).trans K1.out
      have S2 := (Bt.block (w.heap.size + 1) (by omega)).trans K2.out
      clear R1 R2 x0 x1 x2 xf y0 y1 y2 y3 y4 y5 yf l1 l2
      obtain ⟨x0, x1, x2, xf⟩ := row3 S1
      obtain ⟨y0, y1, y2, y3, y4, y5, yf⟩ := row6 S2
      have l1 := row_lt S1
      have l2 := row_lt S2
      have R1 := Lib.hid S1
      have R2 := Lib.hid S2
      clear S1 S2 hb
      go_wp2_with fail
      refine (c_addLeaf [wEffect] [leafC (effW x)] wKey k _ _ w1.heap.size (w1.heap.size + 1) _ HL.out (by omega) (by simp) (by simp)).mono ?_
      rintro e w6 ⟨vk2, vl2, rfl, hL, hb, hzz⟩
      clear HL
      have HL := Lib.hid hL
      clear hL
      have Bt2 := Bt.trans hb
      clear Bt
      have Bt := Bt2
      clear Bt2
      have ht3 := Nat.le_trans ht hzz
      clear ht hzz
      have ht := ht3
      clear ht3
      have S1 := (Bt.block w.heap.size (by omega)).trans K1.out
      have S2 := (Bt.block (w.heap.size + 1) (by omega)).trans K2.out
      clear R1 R2 x0 x1 x2 xf y0 y1 y2 y3 y4 y5 yf l1 l2
      obtain ⟨x0, x1, x2, xf⟩ := row3 S1
      obtain ⟨y0, y1, y2, y3, y4, y5, yf⟩ := row6 S2
      have l1 := row_lt S1
      have l2 := row_lt S2
      have R1 := Lib.hid S1
      have R2 := Lib.hid S2
      clear S1 S2 hb
      have HR := HL.out.row
      obtain ⟨t0, t1, t2, t3, t4, t5, tf⟩ := row6 HR
      have l3 := row_lt HR
      clear HR
      obtain ⟨A4, c4, rfl⟩ := own_form HL.out.keys
      obtain ⟨A5, c5, rfl⟩ := own_form HL.out.kids
      have Bw2 := Bw.trans (Bt.mono (by omega))
      have ne1 : w1.heap.size ≠ w.heap.size + 1 := by omega
      go_wp2_with fail
      exact bodyPost_ret (v := .agg #[.int .i64 6, .bool false, .int .i64 0, .string ⟨#[]⟩, .slice A4 2 c4, .slice A5 2 c5]) (by simp only [results, Tryz.results35]; go_simp) rfl (tree_finL HT.out rfl HL.out (t2 := w.heap.size + 1) (by repeat (first | (with_reducible exact Aside.refl _ _) | ((with_reducible refine aside_set ?_ ?_); (focus (simp; done))) | (with_reducible refine aside_alloc ?_))) (by omega) (by omega) HKS.out HTS.out Bw2)
    · have HT := Lib.hid (show (taintT k v x) = pairT [wEffect, wKey, wValue] [(effW x), k, v] by unfold taintT; rw [if_pos ho, h0]; rfl)
      have Hh0 := Lib.hid h0
      have g0 : v.toList.isEmpty = false := by simpa using h0
      have hks : ∀ s ∈ ([wEffect, wKey, wValue] : List ByteArray), s.size ≤ 9223372036854775807 := by intro s hs; simp at hs; rcases hs with rfl | rfl | rfl <;> decide
      have hts : ∀ s ∈ ([(effW x), k, v] : List ByteArray), s.size ≤ 9223372036854775807 := by intro s hs; simp at hs; rcases hs with rfl | rfl | rfl <;> first | exact hk | exact hv | exact eff_size x
      have HKS := Lib.hid hks
      have HTS := Lib.hid hts
      clear hks hts
      go_enter Tryz.func35, Tryz.ntmps35
      go_wp2_with fail
      refine (c_impl_TaintOk k v x _ hk hv).mono ?_
      rintro e w1 ⟨rfl, hb⟩
      rw [ho]
      have S1 : w1.heap[w.heap.size]? = some (.cells #[.string k, .string v, .int .i64 x] 64 (0, 0)) := (hb.block w.heap.size (by simp; omega)).trans ((Below.heap_alloc _ _ _ (by simp)).trans (heap_at (by simp)))
      have S2 : w1.heap[w.heap.size + 1]? = some (.cells #[.int .i64 0, .bool false, .int .i64 0, .string ⟨#[]⟩, .slice none 0 0, .slice none 0 0] 30 (0, 0)) := (hb.block (w.heap.size + 1) (by simp)).trans (heap_at (by simp))
      have Bw : Below w.heap.size w w1 := Below.trans bel (hb.mono (by simp; omega))
      have hz := hb.size
      simp at hz
      obtain ⟨x0, x1, x2, xf⟩ := row3 S1
      obtain ⟨y0, y1, y2, y3, y4, y5, yf⟩ := row6 S2
      have l1 := row_lt S1
      have l2 := row_lt S2
      have R1 := Lib.hid S1
      have R2 := Lib.hid S2
      clear S1 S2 hb
      go_wp2_with fail
      refine (c_effectWord x _).mono ?_
      rintro e w2 ⟨rfl, hb⟩
      have L : LeafMap (w1.heap.size + 1) w1.heap.size w2 [] [] (.slice none 0 0) (.slice none 0 0) := leafMap_nil ((hb.block w1.heap.size (by simp)).trans (heap_at (by simp)))
      have Bt : Below w1.heap.size w1 w2 := Below.trans bel (hb.mono (by simp; try omega))
      have ht := hb.size
      simp at ht
      have HL := Lib.hid L
      clear L
      have K1 := Lib.hid R1.out
      have K2 := Lib.hid R2.out
      have S1 := (Bt.block w.heap.size (by omega)).trans K1.out
      have S2 := (Bt.block (w.heap.size + 1) (by omega)).trans K2.out
      clear R1 R2 x0 x1 x2 xf y0 y1 y2 y3 y4 y5 yf l1 l2
      obtain ⟨x0, x1, x2, xf⟩ := row3 S1
      obtain ⟨y0, y1, y2, y3, y4, y5, yf⟩ := row6 S2
      have l1 := row_lt S1
      have l2 := row_lt S2
      have R1 := Lib.hid S1
      have R2 := Lib.hid S2
      clear S1 S2 hb
      go_wp2_with fail
      refine (c_impl_TextTree (effW x) _).mono ?_
      rintro e w3 ⟨rfl, hb⟩
      have L := HL.out.carry hb
      clear HL
      have HL := Lib.hid L
      clear L
      have Bt2 := Bt.trans (hb.mono (by omega))
      clear Bt
      have Bt := Bt2
      clear Bt2
      have ht2 := hb.size
      have ht3 := Nat.le_trans ht ht2
      clear ht ht2
      have ht := ht3
      clear ht3
      have S1 := (Bt.block w.heap.size (by omega)).trans K1.out
      have S2 := (Bt.block (w.heap.size + 1) (by omega)).trans K2.out
      clear R1 R2 x0 x1 x2 xf y0 y1 y2 y3 y4 y5 yf l1 l2
      obtain ⟨x0, x1, x2, xf⟩ := row3 S1
      obtain ⟨y0, y1, y2, y3, y4, y5, yf⟩ := row6 S2
      have l1 := row_lt S1
      have l2 := row_lt S2
      have R1 := Lib.hid S1
      have R2 := Lib.hid S2
      clear S1 S2 hb
      go_wp2_with fail
      refine (c_addLeaf [] [] wEffect (effW x) _ _ w1.heap.size (w1.heap.size + 1) _ HL.out (by omega) (by simp) (by simp)).mono ?_
      rintro e w4 ⟨vk1, vl1, rfl, hL, hb, hzz⟩
      clear HL
      have HL := Lib.hid hL
      clear hL
      have Bt2 := Bt.trans hb
      clear Bt
      have Bt := Bt2
      clear Bt2
      have ht3 := Nat.le_trans ht hzz
      clear ht hzz
      have ht := ht3
      clear ht3
      have S1 := (Bt.block w.heap.size (by omega)).trans K1.out
      have S2 := (Bt.block (w.heap.size + 1) (by omega)).trans K2.out
      clear R1 R2 x0 x1 x2 xf y0 y1 y2 y3 y4 y5 yf l1 l2
      obtain ⟨x0, x1, x2, xf⟩ := row3 S1
      obtain ⟨y0, y1, y2, y3, y4, y5, yf⟩ := row6 S2
      have l1 := row_lt S1
      have l2 := row_lt S2
      have R1 := Lib.hid S1
      have R2 := Lib.hid S2
      clear S1 S2 hb
      go_wp2_with fail
      refine (c_impl_TextTree k _).mono ?_
      rintro e w5 ⟨rfl, hb⟩
      have L := HL.out.carry hb
      clear HL
      have HL := Lib.hid L
      clear L
      have Bt2 := Bt.trans (hb.mono (by omega))
      clear Bt
      have Bt := Bt2
      clear Bt2
      have ht2 := hb.size
      have ht3 := Nat.le_trans ht ht2
      clear ht ht2
      have ht := ht3
      clear ht3
      have S1 := (Bt.block w.heap.size (by omega)).trans K1.out
      have S2 := (Bt.block (w.heap.size + 1) (by omega)).trans K2.out
      clear R1 R2 x0 x1 x2 xf y0 y1 y2 y3 y4 y5 yf l1 l2
      obtain ⟨x0, x1, x2, xf⟩ := row3 S1
      obtain ⟨y0, y1, y2, y3, y4, y5, yf⟩ := row6 S2
      have l1 := row_lt S1
      have l2 := row_lt S2
      have R1 := Lib.hid S1
      have R2 := Lib.hid S2
      clear S1 S2 hb
      go_wp2_with fail
      refine (c_addLeaf [wEffect] [leafC (effW x)] wKey k _ _ w1.heap.size (w1.heap.size + 1) _ HL.out (by omega) (by simp) (by simp)).mono ?_
      rintro e w6 ⟨vk2, vl2, rfl, hL, hb, hzz⟩
      clear HL
      have HL := Lib.hid hL
      clear hL
      have Bt2 := Bt.trans hb
      clear Bt
      have Bt := Bt2
      clear Bt2
      have ht3 := Nat.le_trans ht hzz
      clear ht hzz
      have ht := ht3
      clear ht3
      have S1 := (Bt.block w.heap.size (by omega)).trans K1.out
      have S2 := (Bt.block (w.heap.size + 1) (by omega)).trans K2.out
      clear R1 R2 x0 x1 x2 xf y0 y1 y2 y3 y4 y5 yf l1 l2
      obtain ⟨x0, x1, x2, xf⟩ := row3 S1
      obtain ⟨y0, y1, y2, y3, y4, y5, yf⟩ := row6 S2
      have l1 := row_lt S1
      have l2 := row_lt S2
      have R1 := Lib.hid S1
      have R2 := Lib.hid S2
      clear S1 S2 hb
      go_wp2_with fail
      refine (c_impl_TextTree v _).mono ?_
      rintro e w7 ⟨rfl, hb⟩
      have L := HL.out.carry hb
      clear HL
      have HL := Lib.hid L
      clear L
      have Bt2 := Bt.trans (hb.mono (by omega))
      clear Bt
      have Bt := Bt2
      clear Bt2
      have ht2 := hb.size
      have ht3 := Nat.le_trans ht ht2
      clear ht ht2
      have ht := ht3
      clear ht3
      have S1 := (Bt.block w.heap.size (by omega)).trans K1.out
      have S2 := (Bt.block (w.heap.size + 1) (by omega)).trans K2.out
      clear R1 R2 x0 x1 x2 xf y0 y1 y2 y3 y4 y5 yf l1 l2
      obtain ⟨x0, x1, x2, xf⟩ := row3 S1
      obtain ⟨y0, y1, y2, y3, y4, y5, yf⟩ := row6 S2
      have l1 := row_lt S1
      have l2 := row_lt S2
      have R1 := Lib.hid S1
      have R2 := Lib.hid S2
      clear S1 S2 hb
      go_wp2_with fail
      refine (c_addLeaf [wEffect, wKey] [leafC (effW x), leafC k] wValue v _ _ w1.heap.size (w1.heap.size + 1) _ HL.out (by omega) (by simp) (by simp)).mono ?_
      rintro e w8 ⟨vk3, vl3, rfl, hL, hb, hzz⟩
      clear HL
      have HL := Lib.hid hL
      clear hL
      have Bt2 := Bt.trans hb
      clear Bt
      have Bt := Bt2
      clear Bt2
      have ht3 := Nat.le_trans ht hzz
      clear ht hzz
      have ht := ht3
      clear ht3
      have S1 := (Bt.block w.heap.size (by omega)).trans K1.out
      have S2 := (Bt.block (w.heap.size + 1) (by omega)).trans K2.out
      clear R1 R2 x0 x1 x2 xf y0 y1 y2 y3 y4 y5 yf l1 l2
      obtain ⟨x0, x1, x2, xf⟩ := row3 S1
      obtain ⟨y0, y1, y2, y3, y4, y5, yf⟩ := row6 S2
      have l1 := row_lt S1
      have l2 := row_lt S2
      have R1 := Lib.hid S1
      have R2 := Lib.hid S2
      clear S1 S2 hb
      have HR := HL.out.row
      obtain ⟨t0, t1, t2, t3, t4, t5, tf⟩ := row6 HR
      have l3 := row_lt HR
      clear HR
      obtain ⟨A4, c4, rfl⟩ := own_form HL.out.keys
      obtain ⟨A5, c5, rfl⟩ := own_form HL.out.kids
      have Bw2 := Bw.trans (Bt.mono (by omega))
      have ne1 : w1.heap.size ≠ w.heap.size + 1 := by omega
      go_wp2_with fail
      exact bodyPost_ret (v := .agg #[.int .i64 6, .bool false, .int .i64 0, .string ⟨#[]⟩, .slice A4 3 c4, .slice A5 3 c5]) (by simp only [results, Tryz.results35]; go_simp) rfl (tree_finL HT.out rfl HL.out (t2 := w.heap.size + 1) (by repeat (first | (with_reducible exact Aside.refl _ _) | ((with_reducible refine aside_set ?_ ?_); (focus (simp; done))) | (with_reducible refine aside_alloc ?_))) (by omega) (by omega) HKS.out HTS.out Bw2)
set_option maxHeartbeats 4000000 in
set_option maxRecDepth 10000 in
theorem c_spec_TaintTree (n : Nat) (k v : ByteArray) (x : Int) (w : World) (hk : k.size ≤ 9223372036854775807) (hv : v.size ≤ 9223372036854775807) : Calls Tryz.prog 26 #[.agg #[.string k, .string v, .int .i64 x]] w fun e w' => ∃ cs, e = .returned (.agg cs.toArray) ∧ OwnT (n + 2) (fun b => w.heap.size ≤ b ∧ b < w'.heap.size) w' (taintT k v x) cs ∧ Below w.heap.size w w' := by
  rcases ho : taintB k v x with _ | _
  · have HT := Lib.hid (show (taintT k v x) = tree0 by unfold taintT; rw [if_neg (by rw [ho]; decide)])
    go_enter Tryz.func26, Tryz.ntmps26
    go_wp2_with fail
    refine (c_spec_TaintOk k v x _ hk hv).mono ?_
    rintro e w1 ⟨rfl, hb⟩
    rw [ho]
    have Z := (hb.block (w.heap.size + 1) (by simp)).trans (heap_at (by simp))
    have hl := row_lt Z
    obtain ⟨x0, x1, x2, x3, x4, x5, xf⟩ := row6 Z
    have Bw : Below w.heap.size w w1 := Below.trans bel (hb.mono (by simp; omega))
    clear Z hb
    go_wp2_with fail
    exact bodyPost_ret (v := .agg #[.int .i64 0, .bool false, .int .i64 0, .string ⟨#[]⟩, .slice none 0 0, .slice none 0 0]) (by simp only [results, Tryz.results26]; go_simp) rfl (tree_fin0 HT.out (Bw.trans (Aside.below (S := fun b => b = w.heap.size + 1) (by repeat (first | (with_reducible exact Aside.refl _ _) | ((with_reducible refine aside_set ?_ ?_); (focus (simp; done))) | (with_reducible refine aside_alloc ?_))) Bw.size (fun i hi => by omega))))
  · have he : x = 1 ∨ x = 2 := by simp only [taintB, inB, Bool.and_eq_true, decide_eq_true_eq] at ho; omega
    rcases he with rfl | rfl
    all_goals rcases h0 : (!v.toList.isEmpty) with _ | _
    · have HT := Lib.hid (show (taintT k v 1) = pairT [wEffect, wKey] [⟨#[110, 101, 118, 101, 114]⟩, k] by unfold taintT; rw [if_pos ho, h0]; rfl)
      have Hh0 := Lib.hid h0
      have g0 : v.toList.isEmpty = true := by simpa using h0
      have hks : ∀ s ∈ ([wEffect, wKey] : List ByteArray), s.size ≤ 9223372036854775807 := by intro s hs; simp at hs; rcases hs with rfl | rfl <;> decide
      have hts : ∀ s ∈ ([⟨#[110, 101, 118, 101, 114]⟩, k] : List ByteArray), s.size ≤ 9223372036854775807 := by intro s hs; simp at hs; rcases hs with rfl | rfl <;> first | exact hk | exact hv | decide
      have HKS := Lib.hid hks
      have HTS := Lib.hid hts
      clear hks hts
      have i1 : (0 : Int) ≤ 1 := by decide
      have i2 : (1 : Int) < 3 := by decide
      go_enter Tryz.func26, Tryz.ntmps26
      go_wp2_with fail
      refine (c_spec_TaintOk k v 1 _ hk hv).mono ?_
      rintro e w1 ⟨rfl, hb⟩
      rw [ho]
      have S1 : w1.heap[w.heap.size]? = some (.cells #[.string k, .string v, .int .i64 1] 64 (0, 0)) := (hb.block w.heap.size (by simp; omega)).trans ((Below.heap_alloc _ _ _ (by simp)).trans (heap_at (by simp)))
      have S2 : w1.heap[w.heap.size + 1]? = some (.cells #[.int .i64 0, .bool false, .int .i64 0, .string ⟨#[]⟩, .slice none 0 0, .slice none 0 0] 30 (0, 0)) := (hb.block (w.heap.size + 1) (by simp)).trans (heap_at (by simp))
      have Bw : Below w.heap.size w w1 := Below.trans bel (hb.mono (by simp; omega))
      have hz := hb.size
      simp at hz
      obtain ⟨x0, x1, x2, xf⟩ := row3 S1
      obtain ⟨y0, y1, y2, y3, y4, y5, yf⟩ := row6 S2
      have l1 := row_lt S1
      have l2 := row_lt S2
      clear hb
      have R1 := Lib.hid S1
      have R2 := Lib.hid S2
      clear S1 S2
      go_wp2_with fail
      obtain ⟨tb, htb⟩ : ∃ tb, tb = w1.heap.size := ⟨_, rfl⟩
      generalize hW : w1.alloc (.cells #[.int .i64 6, .bool false, .int .i64 0, .string ⟨#[]⟩, .slice none 0 0, .slice none 0 0] 30 (0, 0)) = W
      have S1 : W.heap[w.heap.size]? = some (.cells #[.string k, .string v, .int .i64 1] 64 (0, 0)) := by rw [← hW]; exact (Below.heap_alloc _ _ _ l1).trans R1.out
      have S2 : W.heap[w.heap.size + 1]? = some (.cells #[.int .i64 0, .bool false, .int .i64 0, .string ⟨#[]⟩, .slice none 0 0, .slice none 0 0] 30 (0, 0)) := by rw [← hW]; exact (Below.heap_alloc _ _ _ l2).trans R2.out
      have S3 : W.heap[tb]? = some (.cells #[.int .i64 6, .bool false, .int .i64 0, .string ⟨#[]⟩, .slice none 0 0, .slice none 0 0] 30 (0, 0)) := by rw [← hW, htb]; exact heap_at rfl
      have Bw2 : Below w.heap.size w W := by rw [← hW]; exact Bw.alloc (by omega) _
      have HM := Lib.hid (mapRows_nil (base := tb + 1) (w := W))
      have hB : tb < tb + 1 := Nat.lt_succ_self _
      have htw : w.heap.size + 1 < tb := by omega
      clear R1 R2 Bw hW l1 l2 hz x0 x1 x2 xf y0 y1 y2 y3 y4 y5 yf
      rw [← htb]
      clear htb w1
      have Bw := Bw2
      clear Bw2
      obtain ⟨x0, x1, x2, xf⟩ := row3 S1
      obtain ⟨y0, y1, y2, y3, y4, y5, yf⟩ := row6 S2
      obtain ⟨z0, z1, z2, z3, z4, z5, zf⟩ := row6 S3
      have l1 := row_lt S1
      have l2 := row_lt S2
      have l3 := row_lt S3
      have R1 := Lib.hid S1
      have R2 := Lib.hid S2
      have R3 := Lib.hid S3
      clear S1 S2 S3
      refine comb (P := ?P1) (fun hP => ?_) ?_; rotate_left 1
      · go_region_law (first | (go_simp; go_at_call 73; refine (c_l19Effects _).mono ?_; rintro e wa ⟨rfl, hra, hba⟩; obtain ⟨pa0, pa1, pa2, paf⟩ := row3 ((hba.block w.heap.size (by simpa using l1)).trans R1.out); obtain ⟨qa0, qa1, qa2, qa3, qa4, qa5, qaf⟩ := row6 ((hba.block tb (by simpa using l3)).trans R3.out); have la := row_lt hra; obtain ⟨ra0, ra1, ra2, raf⟩ := row3 hra; simp at ra0 ra1 ra2 raf la) | (go_simp; go_at_call 68; refine (c_spec_TextTree _ _).mono ?_; rintro e wb ⟨rfl, hbb⟩; obtain ⟨qb0, qb1, qb2, qb3, qb4, qb5, qbf⟩ := row6 ((hbb.block tb (by have := hba.size; simp at this ⊢; omega)).trans ((hba.block tb (by simpa using l3)).trans R3.out))) | (go_simp; go_at_call 24; refine (c_l20Put [] [] _ _ _ _ _ _ _ _ _ none none 0 0 0 0 _ _ (tb + 1) _ (MapRows.carryB (w := W) HM.out (fun q hq => (hbb.block q (Nat.lt_of_lt_of_le hq hba.size)).trans (hba.block q hq))) rfl (fun x hx => (by simp at hx)) (fun x hx => (by simp at hx)) (by decide)).mono ?_; rintro e wc ⟨vk1, vl1, rfl, hmc, hbc⟩; have hch : ∀ q, q < W.heap.size → wc.heap[q]? = W.heap[q]? := (fun q hq => (hbc.block q (Nat.lt_of_lt_of_le hq (Nat.le_trans hba.size hbb.size))).trans ((fun q hq => (hbb.block q (Nat.lt_of_lt_of_le hq hba.size)).trans (hba.block q hq)) q hq)); obtain ⟨qc0, qc1, qc2, qc3, qc4, qc5, qcf⟩ := row6 ((hch tb l3).trans R3.out); have lc := row_lt ((hch tb l3).trans R3.out); obtain ⟨B4, d4, rfl⟩ := own_form hmc.keys; obtain ⟨B5, d5, rfl⟩ := own_form hmc.kids; (simp only [List.length_append, List.length_cons, List.length_nil, Nat.zero_add] at hmc ⊢)))
        all_goals
          have C3 := (hch tb l3).trans R3.out
          have Bc : Below w.heap.size w wc := bel
          generalize hW : ((((((wc.setCell ⟨tb, 0, none⟩ (.int .i64 6)).setCell ⟨tb, 1, none⟩ (.bool false)).setCell ⟨tb, 2, none⟩ (.int .i64 0)).setCell ⟨tb, 3, none⟩ (.string ⟨#[]⟩)).setCell ⟨tb, 4, none⟩ (.slice B4 1 d4)).setCell ⟨tb, 5, none⟩ (.slice B5 1 d5)) = W1
          have hF : Aside (fun b => b = tb) wc W1 := by rw [← hW]; exact (by repeat (first | (with_reducible exact Aside.refl _ _) | ((with_reducible refine aside_set ?_ ?_); (focus (simp; done))) | (with_reducible refine aside_alloc ?_)))
          have S1 := (hF.block w.heap.size (by omega) (by omega)).trans ((hch w.heap.size l1).trans R1.out)
          have S2 := (hF.block (w.heap.size + 1) (by omega) (by omega)).trans ((hch (w.heap.size + 1) l2).trans R2.out)
          have S3 : W1.heap[tb]? = some (.cells #[.int .i64 6, .bool false, .int .i64 0, .string ⟨#[]⟩, .slice B4 1 d4, .slice B5 1 d5] 30 (0, 0)) := by rw [← hW]; exact six_set _ _ _ _ _ _ C3
          have hts : tb + 1 ≤ wb.heap.size := by have e1 := hbb.size; have e2 := hba.size; have e3 := l3; simp at e2; omega
          have HM2 := Lib.hid ((hmc.less hts).aside hF (Nat.lt_succ_self _))
          have Bw2 := Bc.trans (hF.below Bc.size (fun i hi => by omega))
          clear hW hF hmc hch C3
          revert HM2 Bw2 S1 S2 S3
          revert W1
          revert B4 d4 B5 d5
          exact hP.out
      intro B4 d4 B5 d5 W1 S1 S2 S3 HM2 Bw2
      clear x0 x1 x2 xf yf zf l1 l2 l3 R1 R2 R3 HM Bw y0 y1 y2 y3 y4 y5 z0 z1 z2 z3 z4 z5
      have HM := HM2
      have Bw := Bw2
      clear HM2 Bw2
      obtain ⟨x0, x1, x2, xf⟩ := row3 S1
      obtain ⟨y0, y1, y2, y3, y4, y5, yf⟩ := row6 S2
      obtain ⟨z0, z1, z2, z3, z4, z5, zf⟩ := row6 S3
      have l1 := row_lt S1
      have l2 := row_lt S2
      have l3 := row_lt S3
      have R1 := Lib.hid S1
      have R2 := Lib.hid S2
      have R3 := Lib.hid S3
      clear S1 S2 S3
      go_wp2_with fail
      refine comb (P := ?P2) (fun hP => ?_) ?_; rotate_left 1
      · go_region_law (first | (go_simp; go_at_call 68; refine (c_spec_TextTree _ _).mono ?_; rintro e wb ⟨rfl, hbb⟩; obtain ⟨qb0, qb1, qb2, qb3, qb4, qb5, qbf⟩ := row6 ((hbb.block tb (by simpa using l3)).trans R3.out)) | (go_simp; go_at_call 24; refine (c_l20Put [wEffect] [leafC ⟨#[110, 101, 118, 101, 114]⟩] _ _ _ _ _ _ _ _ _ none none 0 0 0 0 _ _ (tb + 1) _ (MapRows.carryB (w := W1) HM.out (fun q hq => hbb.block q hq)) rfl (fun x hx => (by simp at hx; subst hx; decide)) (fun x hx => (by simp at hx; subst hx; first | exact less_ek | exact less_ev | exact less_kv)) (by decide)).mono ?_; rintro e wc ⟨vk1, vl1, rfl, hmc, hbc⟩; have hch : ∀ q, q < W1.heap.size → wc.heap[q]? = W1.heap[q]? := (fun q hq => (hbc.block q (Nat.lt_of_lt_of_le hq hbb.size)).trans ((fun q hq => hbb.block q hq) q hq)); obtain ⟨qc0, qc1, qc2, qc3, qc4, qc5, qcf⟩ := row6 ((hch tb l3).trans R3.out); have lc := row_lt ((hch tb l3).trans R3.out); obtain ⟨B4, d4, rfl⟩ := own_form hmc.keys; obtain ⟨B5, d5, rfl⟩ := own_form hmc.kids; (simp only [List.length_append, List.length_cons, List.length_nil, Nat.zero_add, Nat.reduceAdd] at hmc ⊢)))
        all_goals
          have C3 := (hch tb l3).trans R3.out
          have Bc : Below w.heap.size w wc := bel
          generalize hW : ((((((wc.setCell ⟨tb, 0, none⟩ (.int .i64 6)).setCell ⟨tb, 1, none⟩ (.bool false)).setCell ⟨tb, 2, none⟩ (.int .i64 0)).setCell ⟨tb, 3, none⟩ (.string ⟨#[]⟩)).setCell ⟨tb, 4, none⟩ (.slice B4 2 d4)).setCell ⟨tb, 5, none⟩ (.slice B5 2 d5)) = W2
          have hF : Aside (fun b => b = tb) wc W2 := by rw [← hW]; exact (by repeat (first | (with_reducible exact Aside.refl _ _) | ((with_reducible refine aside_set ?_ ?_); (focus (simp; done))) | (with_reducible refine aside_alloc ?_)))
          have S1 := (hF.block w.heap.size (by omega) (by omega)).trans ((hch w.heap.size l1).trans R1.out)
          have S2 := (hF.block (w.heap.size + 1) (by omega) (by omega)).trans ((hch (w.heap.size + 1) l2).trans R2.out)
          have S3 : W2.heap[tb]? = some (.cells #[.int .i64 6, .bool false, .int .i64 0, .string ⟨#[]⟩, .slice B4 2 d4, .slice B5 2 d5] 30 (0, 0)) := by rw [← hW]; exact six_set _ _ _ _ _ _ C3
          have hts : tb + 1 ≤ wb.heap.size := by have e1 := hbb.size; have e3 := l3; simp at e1; omega
          have HM2 := Lib.hid ((hmc.less hts).aside hF (Nat.lt_succ_self _))
          have Bw2 := Bc.trans (hF.below Bc.size (fun i hi => by omega))
          clear hW hF hmc hch C3
          revert HM2 Bw2 S1 S2 S3
          revert W2
          revert B4 d4 B5 d5
          exact hP.out
      intro B4 d4 B5 d5 W2 S1 S2 S3 HM2 Bw2
      clear x0 x1 x2 xf yf zf l1 l2 l3 R1 R2 R3 HM Bw y0 y1 y2 y3 y4 y5 z0 z1 z2 z3 z4 z5
      clear W1
      have HM := HM2
      have Bw := Bw2
      clear HM2 Bw2
      obtain ⟨x0, x1, x2, xf⟩ := row3 S1
      obtain ⟨y0, y1, y2, y3, y4, y5, yf⟩ := row6 S2
      obtain ⟨z0, z1, z2, z3, z4, z5, zf⟩ := row6 S3
      have l1 := row_lt S1
      have l2 := row_lt S2
      have l3 := row_lt S3
      have R1 := Lib.hid S1
      have R2 := Lib.hid S2
      have R3 := Lib.hid S3
      clear S1 S2 S3
      go_wp2_with fail
      exact bodyPost_ret (v := .agg #[.int .i64 6, .bool false, .int .i64 0, .string ⟨#[]⟩, .slice B4 2 d4, .slice B5 2 d5]) (by simp only [results, Tryz.results26]; go_simp) rfl (tree_finM HT.out rfl HM.out (t2 := w.heap.size + 1) (by repeat (first | (with_reducible exact Aside.refl _ _) | ((with_reducible refine aside_set ?_ ?_); (focus (simp; done))) | (with_reducible refine aside_alloc ?_))) (by omega) (by omega) HKS.out HTS.out Bw)
    · have HT := Lib.hid (show (taintT k v 1) = pairT [wEffect, wKey, wValue] [⟨#[110, 101, 118, 101, 114]⟩, k, v] by unfold taintT; rw [if_pos ho, h0]; rfl)
      have Hh0 := Lib.hid h0
      have g0 : v.toList.isEmpty = false := by simpa using h0
      have hks : ∀ s ∈ ([wEffect, wKey, wValue] : List ByteArray), s.size ≤ 9223372036854775807 := by intro s hs; simp at hs; rcases hs with rfl | rfl | rfl <;> decide
      have hts : ∀ s ∈ ([⟨#[110, 101, 118, 101, 114]⟩, k, v] : List ByteArray), s.size ≤ 9223372036854775807 := by intro s hs; simp at hs; rcases hs with rfl | rfl | rfl <;> first | exact hk | exact hv | decide
      have HKS := Lib.hid hks
      have HTS := Lib.hid hts
      clear hks hts
      have i1 : (0 : Int) ≤ 1 := by decide
      have i2 : (1 : Int) < 3 := by decide
      go_enter Tryz.func26, Tryz.ntmps26
      go_wp2_with fail
      refine (c_spec_TaintOk k v 1 _ hk hv).mono ?_
      rintro e w1 ⟨rfl, hb⟩
      rw [ho]
      have S1 : w1.heap[w.heap.size]? = some (.cells #[.string k, .string v, .int .i64 1] 64 (0, 0)) := (hb.block w.heap.size (by simp; omega)).trans ((Below.heap_alloc _ _ _ (by simp)).trans (heap_at (by simp)))
      have S2 : w1.heap[w.heap.size + 1]? = some (.cells #[.int .i64 0, .bool false, .int .i64 0, .string ⟨#[]⟩, .slice none 0 0, .slice none 0 0] 30 (0, 0)) := (hb.block (w.heap.size + 1) (by simp)).trans (heap_at (by simp))
      have Bw : Below w.heap.size w w1 := Below.trans bel (hb.mono (by simp; omega))
      have hz := hb.size
      simp at hz
      obtain ⟨x0, x1, x2, xf⟩ := row3 S1
      obtain ⟨y0, y1, y2, y3, y4, y5, yf⟩ := row6 S2
      have l1 := row_lt S1
      have l2 := row_lt S2
      clear hb
      have R1 := Lib.hid S1
      have R2 := Lib.hid S2
      clear S1 S2
      go_wp2_with fail
      obtain ⟨tb, htb⟩ : ∃ tb, tb = w1.heap.size := ⟨_, rfl⟩
      generalize hW : w1.alloc (.cells #[.int .i64 6, .bool false, .int .i64 0, .string ⟨#[]⟩, .slice none 0 0, .slice none 0 0] 30 (0, 0)) = W
      have S1 : W.heap[w.heap.size]? = some (.cells #[.string k, .string v, .int .i64 1] 64 (0, 0)) := by rw [← hW]; exact (Below.heap_alloc _ _ _ l1).trans R1.out
      have S2 : W.heap[w.heap.size + 1]? = some (.cells #[.int .i64 0, .bool false, .int .i64 0, .string ⟨#[]⟩, .slice none 0 0, .slice none 0 0] 30 (0, 0)) := by rw [← hW]; exact (Below.heap_alloc _ _ _ l2).trans R2.out
      have S3 : W.heap[tb]? = some (.cells #[.int .i64 6, .bool false, .int .i64 0, .string ⟨#[]⟩, .slice none 0 0, .slice none 0 0] 30 (0, 0)) := by rw [← hW, htb]; exact heap_at rfl
      have Bw2 : Below w.heap.size w W := by rw [← hW]; exact Bw.alloc (by omega) _
      have HM := Lib.hid (mapRows_nil (base := tb + 1) (w := W))
      have hB : tb < tb + 1 := Nat.lt_succ_self _
      have htw : w.heap.size + 1 < tb := by omega
      clear R1 R2 Bw hW l1 l2 hz x0 x1 x2 xf y0 y1 y2 y3 y4 y5 yf
      rw [← htb]
      clear htb w1
      have Bw := Bw2
      clear Bw2
      obtain ⟨x0, x1, x2, xf⟩ := row3 S1
      obtain ⟨y0, y1, y2, y3, y4, y5, yf⟩ := row6 S2
      obtain ⟨z0, z1, z2, z3, z4, z5, zf⟩ := row6 S3
      have l1 := row_lt S1
      have l2 := row_lt S2
      have l3 := row_lt S3
      have R1 := Lib.hid S1
      have R2 := Lib.hid S2
      have R3 := Lib.hid S3
      clear S1 S2 S3
      refine comb (P := ?P3) (fun hP => ?_) ?_; rotate_left 1
      · go_region_law (first | (go_simp; go_at_call 73; refine (c_l19Effects _).mono ?_; rintro e wa ⟨rfl, hra, hba⟩; obtain ⟨pa0, pa1, pa2, paf⟩ := row3 ((hba.block w.heap.size (by simpa using l1)).trans R1.out); obtain ⟨qa0, qa1, qa2, qa3, qa4, qa5, qaf⟩ := row6 ((hba.block tb (by simpa using l3)).trans R3.out); have la := row_lt hra; obtain ⟨ra0, ra1, ra2, raf⟩ := row3 hra; simp at ra0 ra1 ra2 raf la) | (go_simp; go_at_call 68; refine (c_spec_TextTree _ _).mono ?_; rintro e wb ⟨rfl, hbb⟩; obtain ⟨qb0, qb1, qb2, qb3, qb4, qb5, qbf⟩ := row6 ((hbb.block tb (by have := hba.size; simp at this ⊢; omega)).trans ((hba.block tb (by simpa using l3)).trans R3.out))) | (go_simp; go_at_call 24; refine (c_l20Put [] [] _ _ _ _ _ _ _ _ _ none none 0 0 0 0 _ _ (tb + 1) _ (MapRows.carryB (w := W) HM.out (fun q hq => (hbb.block q (Nat.lt_of_lt_of_le hq hba.size)).trans (hba.block q hq))) rfl (fun x hx => (by simp at hx)) (fun x hx => (by simp at hx)) (by decide)).mono ?_; rintro e wc ⟨vk1, vl1, rfl, hmc, hbc⟩; have hch : ∀ q, q < W.heap.size → wc.heap[q]? = W.heap[q]? := (fun q hq => (hbc.block q (Nat.lt_of_lt_of_le hq (Nat.le_trans hba.size hbb.size))).trans ((fun q hq => (hbb.block q (Nat.lt_of_lt_of_le hq hba.size)).trans (hba.block q hq)) q hq)); obtain ⟨qc0, qc1, qc2, qc3, qc4, qc5, qcf⟩ := row6 ((hch tb l3).trans R3.out); have lc := row_lt ((hch tb l3).trans R3.out); obtain ⟨B4, d4, rfl⟩ := own_form hmc.keys; obtain ⟨B5, d5, rfl⟩ := own_form hmc.kids; (simp only [List.length_append, List.length_cons, List.length_nil, Nat.zero_add] at hmc ⊢)))
        all_goals
          have C3 := (hch tb l3).trans R3.out
          have Bc : Below w.heap.size w wc := bel
          generalize hW : ((((((wc.setCell ⟨tb, 0, none⟩ (.int .i64 6)).setCell ⟨tb, 1, none⟩ (.bool false)).setCell ⟨tb, 2, none⟩ (.int .i64 0)).setCell ⟨tb, 3, none⟩ (.string ⟨#[]⟩)).setCell ⟨tb, 4, none⟩ (.slice B4 1 d4)).setCell ⟨tb, 5, none⟩ (.slice B5 1 d5)) = W1
          have hF : Aside (fun b => b = tb) wc W1 := by rw [← hW]; exact (by repeat (first | (with_reducible exact Aside.refl _ _) | ((with_reducible refine aside_set ?_ ?_); (focus (simp; done))) | (with_reducible refine aside_alloc ?_)))
          have S1 := (hF.block w.heap.size (by omega) (by omega)).trans ((hch w.heap.size l1).trans R1.out)
          have S2 := (hF.block (w.heap.size + 1) (by omega) (by omega)).trans ((hch (w.heap.size + 1) l2).trans R2.out)
          have S3 : W1.heap[tb]? = some (.cells #[.int .i64 6, .bool false, .int .i64 0, .string ⟨#[]⟩, .slice B4 1 d4, .slice B5 1 d5] 30 (0, 0)) := by rw [← hW]; exact six_set _ _ _ _ _ _ C3
          have hts : tb + 1 ≤ wb.heap.size := by have e1 := hbb.size; have e2 := hba.size; have e3 := l3; simp at e2; omega
          have HM2 := Lib.hid ((hmc.less hts).aside hF (Nat.lt_succ_self _))
          have Bw2 := Bc.trans (hF.below Bc.size (fun i hi => by omega))
          clear hW hF hmc hch C3
          revert HM2 Bw2 S1 S2 S3
          revert W1
          revert B4 d4 B5 d5
          exact hP.out
      intro B4 d4 B5 d5 W1 S1 S2 S3 HM2 Bw2
      clear x0 x1 x2 xf yf zf l1 l2 l3 R1 R2 R3 HM Bw y0 y1 y2 y3 y4 y5 z0 z1 z2 z3 z4 z5
      have HM := HM2
      have Bw := Bw2
      clear HM2 Bw2
      obtain ⟨x0, x1, x2, xf⟩ := row3 S1
      obtain ⟨y0, y1, y2, y3, y4, y5, yf⟩ := row6 S2
      obtain ⟨z0, z1, z2, z3, z4, z5, zf⟩ := row6 S3
      have l1 := row_lt S1
      have l2 := row_lt S2
      have l3 := row_lt S3
      have R1 := Lib.hid S1
      have R2 := Lib.hid S2
      have R3 := Lib.hid S3
      clear S1 S2 S3
      go_wp2_with fail
      refine comb (P := ?P4) (fun hP => ?_) ?_; rotate_left 1
      · go_region_law (first | (go_simp; go_at_call 68; refine (c_spec_TextTree _ _).mono ?_; rintro e wb ⟨rfl, hbb⟩; obtain ⟨qb0, qb1, qb2, qb3, qb4, qb5, qbf⟩ := row6 ((hbb.block tb (by simpa using l3)).trans R3.out)) | (go_simp; go_at_call 24; refine (c_l20Put [wEffect] [leafC ⟨#[110, 101, 118, 101, 114]⟩] _ _ _ _ _ _ _ _ _ none none 0 0 0 0 _ _ (tb + 1) _ (MapRows.carryB (w := W1) HM.out (fun q hq => hbb.block q hq)) rfl (fun x hx => (by simp at hx; subst hx; decide)) (fun x hx => (by simp at hx; subst hx; first | exact less_ek | exact less_ev | exact less_kv)) (by decide)).mono ?_; rintro e wc ⟨vk1, vl1, rfl, hmc, hbc⟩; have hch : ∀ q, q < W1.heap.size → wc.heap[q]? = W1.heap[q]? := (fun q hq => (hbc.block q (Nat.lt_of_lt_of_le hq hbb.size)).trans ((fun q hq => hbb.block q hq) q hq)); obtain ⟨qc0, qc1, qc2, qc3, qc4, qc5, qcf⟩ := row6 ((hch tb l3).trans R3.out); have lc := row_lt ((hch tb l3).trans R3.out); obtain ⟨B4, d4, rfl⟩ := own_form hmc.keys; obtain ⟨B5, d5, rfl⟩ := own_form hmc.kids; (simp only [List.length_append, List.length_cons, List.length_nil, Nat.zero_add, Nat.reduceAdd] at hmc ⊢)))
        all_goals
          have C3 := (hch tb l3).trans R3.out
          have Bc : Below w.heap.size w wc := bel
          generalize hW : ((((((wc.setCell ⟨tb, 0, none⟩ (.int .i64 6)).setCell ⟨tb, 1, none⟩ (.bool false)).setCell ⟨tb, 2, none⟩ (.int .i64 0)).setCell ⟨tb, 3, none⟩ (.string ⟨#[]⟩)).setCell ⟨tb, 4, none⟩ (.slice B4 2 d4)).setCell ⟨tb, 5, none⟩ (.slice B5 2 d5)) = W2
          have hF : Aside (fun b => b = tb) wc W2 := by rw [← hW]; exact (by repeat (first | (with_reducible exact Aside.refl _ _) | ((with_reducible refine aside_set ?_ ?_); (focus (simp; done))) | (with_reducible refine aside_alloc ?_)))
          have S1 := (hF.block w.heap.size (by omega) (by omega)).trans ((hch w.heap.size l1).trans R1.out)
          have S2 := (hF.block (w.heap.size + 1) (by omega) (by omega)).trans ((hch (w.heap.size + 1) l2).trans R2.out)
          have S3 : W2.heap[tb]? = some (.cells #[.int .i64 6, .bool false, .int .i64 0, .string ⟨#[]⟩, .slice B4 2 d4, .slice B5 2 d5] 30 (0, 0)) := by rw [← hW]; exact six_set _ _ _ _ _ _ C3
          have hts : tb + 1 ≤ wb.heap.size := by have e1 := hbb.size; have e3 := l3; simp at e1; omega
          have HM2 := Lib.hid ((hmc.less hts).aside hF (Nat.lt_succ_self _))
          have Bw2 := Bc.trans (hF.below Bc.size (fun i hi => by omega))
          clear hW hF hmc hch C3
          revert HM2 Bw2 S1 S2 S3
          revert W2
          revert B4 d4 B5 d5
          exact hP.out
      intro B4 d4 B5 d5 W2 S1 S2 S3 HM2 Bw2
      clear x0 x1 x2 xf yf zf l1 l2 l3 R1 R2 R3 HM Bw y0 y1 y2 y3 y4 y5 z0 z1 z2 z3 z4 z5
      clear W1
      have HM := HM2
      have Bw := Bw2
      clear HM2 Bw2
      obtain ⟨x0, x1, x2, xf⟩ := row3 S1
      obtain ⟨y0, y1, y2, y3, y4, y5, yf⟩ := row6 S2
      obtain ⟨z0, z1, z2, z3, z4, z5, zf⟩ := row6 S3
      have l1 := row_lt S1
      have l2 := row_lt S2
      have l3 := row_lt S3
      have R1 := Lib.hid S1
      have R2 := Lib.hid S2
      have R3 := Lib.hid S3
      clear S1 S2 S3
      go_wp2_with fail
      refine comb (P := ?P5) (fun hP => ?_) ?_; rotate_left 1
      · go_region_law (first | (go_simp; go_at_call 68; refine (c_spec_TextTree _ _).mono ?_; rintro e wb ⟨rfl, hbb⟩; obtain ⟨qb0, qb1, qb2, qb3, qb4, qb5, qbf⟩ := row6 ((hbb.block tb (by simpa using l3)).trans R3.out)) | (go_simp; go_at_call 24; refine (c_l20Put [wEffect, wKey] [leafC ⟨#[110, 101, 118, 101, 114]⟩, leafC k] _ _ _ _ _ _ _ _ _ none none 0 0 0 0 _ _ (tb + 1) _ (MapRows.carryB (w := W2) HM.out (fun q hq => hbb.block q hq)) rfl (fun x hx => (by simp at hx; rcases hx with rfl | rfl <;> decide)) (fun x hx => (by simp at hx; rcases hx with rfl | rfl <;> first | exact less_ek | exact less_ev | exact less_kv)) (by decide)).mono ?_; rintro e wc ⟨vk1, vl1, rfl, hmc, hbc⟩; have hch : ∀ q, q < W2.heap.size → wc.heap[q]? = W2.heap[q]? := (fun q hq => (hbc.block q (Nat.lt_of_lt_of_le hq hbb.size)).trans ((fun q hq => hbb.block q hq) q hq)); obtain ⟨qc0, qc1, qc2, qc3, qc4, qc5, qcf⟩ := row6 ((hch tb l3).trans R3.out); have lc := row_lt ((hch tb l3).trans R3.out); obtain ⟨B4, d4, rfl⟩ := own_form hmc.keys; obtain ⟨B5, d5, rfl⟩ := own_form hmc.kids; (simp only [List.length_append, List.length_cons, List.length_nil, Nat.zero_add, Nat.reduceAdd] at hmc ⊢)))
        all_goals
          have C3 := (hch tb l3).trans R3.out
          have Bc : Below w.heap.size w wc := bel
          generalize hW : ((((((wc.setCell ⟨tb, 0, none⟩ (.int .i64 6)).setCell ⟨tb, 1, none⟩ (.bool false)).setCell ⟨tb, 2, none⟩ (.int .i64 0)).setCell ⟨tb, 3, none⟩ (.string ⟨#[]⟩)).setCell ⟨tb, 4, none⟩ (.slice B4 3 d4)).setCell ⟨tb, 5, none⟩ (.slice B5 3 d5)) = W3
          have hF : Aside (fun b => b = tb) wc W3 := by rw [← hW]; exact (by repeat (first | (with_reducible exact Aside.refl _ _) | ((with_reducible refine aside_set ?_ ?_); (focus (simp; done))) | (with_reducible refine aside_alloc ?_)))
          have S1 := (hF.block w.heap.size (by omega) (by omega)).trans ((hch w.heap.size l1).trans R1.out)
          have S2 := (hF.block (w.heap.size + 1) (by omega) (by omega)).trans ((hch (w.heap.size + 1) l2).trans R2.out)
          have S3 : W3.heap[tb]? = some (.cells #[.int .i64 6, .bool false, .int .i64 0, .string ⟨#[]⟩, .slice B4 3 d4, .slice B5 3 d5] 30 (0, 0)) := by rw [← hW]; exact six_set _ _ _ _ _ _ C3
          have hts : tb + 1 ≤ wb.heap.size := by have e1 := hbb.size; have e3 := l3; simp at e1; omega
          have HM2 := Lib.hid ((hmc.less hts).aside hF (Nat.lt_succ_self _))
          have Bw2 := Bc.trans (hF.below Bc.size (fun i hi => by omega))
          clear hW hF hmc hch C3
          revert HM2 Bw2 S1 S2 S3
          revert W3
          revert B4 d4 B5 d5
          exact hP.out
      intro B4 d4 B5 d5 W3 S1 S2 S3 HM2 Bw2
      clear x0 x1 x2 xf yf zf l1 l2 l3 R1 R2 R3 HM Bw y0 y1 y2 y3 y4 y5 z0 z1 z2 z3 z4 z5
      clear W2
      have HM := HM2
      have Bw := Bw2
      clear HM2 Bw2
      obtain ⟨x0, x1, x2, xf⟩ := row3 S1
      obtain ⟨y0, y1, y2, y3, y4, y5, yf⟩ := row6 S2
      obtain ⟨z0, z1, z2, z3, z4, z5, zf⟩ := row6 S3
      have l1 := row_lt S1
      have l2 := row_lt S2
      have l3 := row_lt S3
      have R1 := Lib.hid S1
      have R2 := Lib.hid S2
      have R3 := Lib.hid S3
      clear S1 S2 S3
      go_wp2_with fail
      exact bodyPost_ret (v := .agg #[.int .i64 6, .bool false, .int .i64 0, .string ⟨#[]⟩, .slice B4 3 d4, .slice B5 3 d5]) (by simp only [results, Tryz.results26]; go_simp) rfl (tree_finM HT.out rfl HM.out (t2 := w.heap.size + 1) (by repeat (first | (with_reducible exact Aside.refl _ _) | ((with_reducible refine aside_set ?_ ?_); (focus (simp; done))) | (with_reducible refine aside_alloc ?_))) (by omega) (by omega) HKS.out HTS.out Bw)
    · have HT := Lib.hid (show (taintT k v 2) = pairT [wEffect, wKey] [⟨#[115, 111, 102, 116]⟩, k] by unfold taintT; rw [if_pos ho, h0]; rfl)
      have Hh0 := Lib.hid h0
      have g0 : v.toList.isEmpty = true := by simpa using h0
      have hks : ∀ s ∈ ([wEffect, wKey] : List ByteArray), s.size ≤ 9223372036854775807 := by intro s hs; simp at hs; rcases hs with rfl | rfl <;> decide
      have hts : ∀ s ∈ ([⟨#[115, 111, 102, 116]⟩, k] : List ByteArray), s.size ≤ 9223372036854775807 := by intro s hs; simp at hs; rcases hs with rfl | rfl <;> first | exact hk | exact hv | decide
      have HKS := Lib.hid hks
      have HTS := Lib.hid hts
      clear hks hts
      have i1 : (0 : Int) ≤ 2 := by decide
      have i2 : (2 : Int) < 3 := by decide
      go_enter Tryz.func26, Tryz.ntmps26
      go_wp2_with fail
      refine (c_spec_TaintOk k v 2 _ hk hv).mono ?_
      rintro e w1 ⟨rfl, hb⟩
      rw [ho]
      have S1 : w1.heap[w.heap.size]? = some (.cells #[.string k, .string v, .int .i64 2] 64 (0, 0)) := (hb.block w.heap.size (by simp; omega)).trans ((Below.heap_alloc _ _ _ (by simp)).trans (heap_at (by simp)))
      have S2 : w1.heap[w.heap.size + 1]? = some (.cells #[.int .i64 0, .bool false, .int .i64 0, .string ⟨#[]⟩, .slice none 0 0, .slice none 0 0] 30 (0, 0)) := (hb.block (w.heap.size + 1) (by simp)).trans (heap_at (by simp))
      have Bw : Below w.heap.size w w1 := Below.trans bel (hb.mono (by simp; omega))
      have hz := hb.size
      simp at hz
      obtain ⟨x0, x1, x2, xf⟩ := row3 S1
      obtain ⟨y0, y1, y2, y3, y4, y5, yf⟩ := row6 S2
      have l1 := row_lt S1
      have l2 := row_lt S2
      clear hb
      have R1 := Lib.hid S1
      have R2 := Lib.hid S2
      clear S1 S2
      go_wp2_with fail
      obtain ⟨tb, htb⟩ : ∃ tb, tb = w1.heap.size := ⟨_, rfl⟩
      generalize hW : w1.alloc (.cells #[.int .i64 6, .bool false, .int .i64 0, .string ⟨#[]⟩, .slice none 0 0, .slice none 0 0] 30 (0, 0)) = W
      have S1 : W.heap[w.heap.size]? = some (.cells #[.string k, .string v, .int .i64 2] 64 (0, 0)) := by rw [← hW]; exact (Below.heap_alloc _ _ _ l1).trans R1.out
      have S2 : W.heap[w.heap.size + 1]? = some (.cells #[.int .i64 0, .bool false, .int .i64 0, .string ⟨#[]⟩, .slice none 0 0, .slice none 0 0] 30 (0, 0)) := by rw [← hW]; exact (Below.heap_alloc _ _ _ l2).trans R2.out
      have S3 : W.heap[tb]? = some (.cells #[.int .i64 6, .bool false, .int .i64 0, .string ⟨#[]⟩, .slice none 0 0, .slice none 0 0] 30 (0, 0)) := by rw [← hW, htb]; exact heap_at rfl
      have Bw2 : Below w.heap.size w W := by rw [← hW]; exact Bw.alloc (by omega) _
      have HM := Lib.hid (mapRows_nil (base := tb + 1) (w := W))
      have hB : tb < tb + 1 := Nat.lt_succ_self _
      have htw : w.heap.size + 1 < tb := by omega
      clear R1 R2 Bw hW l1 l2 hz x0 x1 x2 xf y0 y1 y2 y3 y4 y5 yf
      rw [← htb]
      clear htb w1
      have Bw := Bw2
      clear Bw2
      obtain ⟨x0, x1, x2, xf⟩ := row3 S1
      obtain ⟨y0, y1, y2, y3, y4, y5, yf⟩ := row6 S2
      obtain ⟨z0, z1, z2, z3, z4, z5, zf⟩ := row6 S3
      have l1 := row_lt S1
      have l2 := row_lt S2
      have l3 := row_lt S3
      have R1 := Lib.hid S1
      have R2 := Lib.hid S2
      have R3 := Lib.hid S3
      clear S1 S2 S3
      refine comb (P := ?P6) (fun hP => ?_) ?_; rotate_left 1
      · go_region_law (first | (go_simp; go_at_call 73; refine (c_l19Effects _).mono ?_; rintro e wa ⟨rfl, hra, hba⟩; obtain ⟨pa0, pa1, pa2, paf⟩ := row3 ((hba.block w.heap.size (by simpa using l1)).trans R1.out); obtain ⟨qa0, qa1, qa2, qa3, qa4, qa5, qaf⟩ := row6 ((hba.block tb (by simpa using l3)).trans R3.out); have la := row_lt hra; obtain ⟨ra0, ra1, ra2, raf⟩ := row3 hra; simp at ra0 ra1 ra2 raf la) | (go_simp; go_at_call 68; refine (c_spec_TextTree _ _).mono ?_; rintro e wb ⟨rfl, hbb⟩; obtain ⟨qb0, qb1, qb2, qb3, qb4, qb5, qbf⟩ := row6 ((hbb.block tb (by have := hba.size; simp at this ⊢; omega)).trans ((hba.block tb (by simpa using l3)).trans R3.out))) | (go_simp; go_at_call 24; refine (c_l20Put [] [] _ _ _ _ _ _ _ _ _ none none 0 0 0 0 _ _ (tb + 1) _ (MapRows.carryB (w := W) HM.out (fun q hq => (hbb.block q (Nat.lt_of_lt_of_le hq hba.size)).trans (hba.block q hq))) rfl (fun x hx => (by simp at hx)) (fun x hx => (by simp at hx)) (by decide)).mono ?_; rintro e wc ⟨vk1, vl1, rfl, hmc, hbc⟩; have hch : ∀ q, q < W.heap.size → wc.heap[q]? = W.heap[q]? := (fun q hq => (hbc.block q (Nat.lt_of_lt_of_le hq (Nat.le_trans hba.size hbb.size))).trans ((fun q hq => (hbb.block q (Nat.lt_of_lt_of_le hq hba.size)).trans (hba.block q hq)) q hq)); obtain ⟨qc0, qc1, qc2, qc3, qc4, qc5, qcf⟩ := row6 ((hch tb l3).trans R3.out); have lc := row_lt ((hch tb l3).trans R3.out); obtain ⟨B4, d4, rfl⟩ := own_form hmc.keys; obtain ⟨B5, d5, rfl⟩ := own_form hmc.kids; (simp only [List.length_append, List.length_cons, List.length_nil, Nat.zero_add] at hmc ⊢)))
        all_goals
          have C3 := (hch tb l3).trans R3.out
          have Bc : Below w.heap.size w wc := bel
          generalize hW : ((((((wc.setCell ⟨tb, 0, none⟩ (.int .i64 6)).setCell ⟨tb, 1, none⟩ (.bool false)).setCell ⟨tb, 2, none⟩ (.int .i64 0)).setCell ⟨tb, 3, none⟩ (.string ⟨#[]⟩)).setCell ⟨tb, 4, none⟩ (.slice B4 1 d4)).setCell ⟨tb, 5, none⟩ (.slice B5 1 d5)) = W1
          have hF : Aside (fun b => b = tb) wc W1 := by rw [← hW]; exact (by repeat (first | (with_reducible exact Aside.refl _ _) | ((with_reducible refine aside_set ?_ ?_); (focus (simp; done))) | (with_reducible refine aside_alloc ?_)))
          have S1 := (hF.block w.heap.size (by omega) (by omega)).trans ((hch w.heap.size l1).trans R1.out)
          have S2 := (hF.block (w.heap.size + 1) (by omega) (by omega)).trans ((hch (w.heap.size + 1) l2).trans R2.out)
          have S3 : W1.heap[tb]? = some (.cells #[.int .i64 6, .bool false, .int .i64 0, .string ⟨#[]⟩, .slice B4 1 d4, .slice B5 1 d5] 30 (0, 0)) := by rw [← hW]; exact six_set _ _ _ _ _ _ C3
          have hts : tb + 1 ≤ wb.heap.size := by have e1 := hbb.size; have e2 := hba.size; have e3 := l3; simp at e2; omega
          have HM2 := Lib.hid ((hmc.less hts).aside hF (Nat.lt_succ_self _))
          have Bw2 := Bc.trans (hF.below Bc.size (fun i hi => by omega))
          clear hW hF hmc hch C3
          revert HM2 Bw2 S1 S2 S3
          revert W1
          revert B4 d4 B5 d5
          exact hP.out
      intro B4 d4 B5 d5 W1 S1 S2 S3 HM2 Bw2
      clear x0 x1 x2 xf yf zf l1 l2 l3 R1 R2 R3 HM Bw y0 y1 y2 y3 y4 y5 z0 z1 z2 z3 z4 z5
      have HM := HM2
      have Bw := Bw2
      clear HM2 Bw2
      obtain ⟨x0, x1, x2, xf⟩ := row3 S1
      obtain ⟨y0, y1, y2, y3, y4, y5, yf⟩ := row6 S2
      obtain ⟨z0, z1, z2, z3, z4, z5, zf⟩ := row6 S3
      have l1 := row_lt S1
      have l2 := row_lt S2
      have l3 := row_lt S3
      have R1 := Lib.hid S1
      have R2 := Lib.hid S2
      have R3 := Lib.hid S3
      clear S1 S2 S3
      go_wp2_with fail
      refine comb (P := ?P7) (fun hP => ?_) ?_; rotate_left 1
      · go_region_law (first | (go_simp; go_at_call 68; refine (c_spec_TextTree _ _).mono ?_; rintro e wb ⟨rfl, hbb⟩; obtain ⟨qb0, qb1, qb2, qb3, qb4, qb5, qbf⟩ := row6 ((hbb.block tb (by simpa using l3)).trans R3.out)) | (go_simp; go_at_call 24; refine (c_l20Put [wEffect] [leafC ⟨#[115, 111, 102, 116]⟩] _ _ _ _ _ _ _ _ _ none none 0 0 0 0 _ _ (tb + 1) _ (MapRows.carryB (w := W1) HM.out (fun q hq => hbb.block q hq)) rfl (fun x hx => (by simp at hx; subst hx; decide)) (fun x hx => (by simp at hx; subst hx; first | exact less_ek | exact less_ev | exact less_kv)) (by decide)).mono ?_; rintro e wc ⟨vk1, vl1, rfl, hmc, hbc⟩; have hch : ∀ q, q < W1.heap.size → wc.heap[q]? = W1.heap[q]? := (fun q hq => (hbc.block q (Nat.lt_of_lt_of_le hq hbb.size)).trans ((fun q hq => hbb.block q hq) q hq)); obtain ⟨qc0, qc1, qc2, qc3, qc4, qc5, qcf⟩ := row6 ((hch tb l3).trans R3.out); have lc := row_lt ((hch tb l3).trans R3.out); obtain ⟨B4, d4, rfl⟩ := own_form hmc.keys; obtain ⟨B5, d5, rfl⟩ := own_form hmc.kids; (simp only [List.length_append, List.length_cons, List.length_nil, Nat.zero_add, Nat.reduceAdd] at hmc ⊢)))
        all_goals
          have C3 := (hch tb l3).trans R3.out
          have Bc : Below w.heap.size w wc := bel
          generalize hW : ((((((wc.setCell ⟨tb, 0, none⟩ (.int .i64 6)).setCell ⟨tb, 1, none⟩ (.bool false)).setCell ⟨tb, 2, none⟩ (.int .i64 0)).setCell ⟨tb, 3, none⟩ (.string ⟨#[]⟩)).setCell ⟨tb, 4, none⟩ (.slice B4 2 d4)).setCell ⟨tb, 5, none⟩ (.slice B5 2 d5)) = W2
          have hF : Aside (fun b => b = tb) wc W2 := by rw [← hW]; exact (by repeat (first | (with_reducible exact Aside.refl _ _) | ((with_reducible refine aside_set ?_ ?_); (focus (simp; done))) | (with_reducible refine aside_alloc ?_)))
          have S1 := (hF.block w.heap.size (by omega) (by omega)).trans ((hch w.heap.size l1).trans R1.out)
          have S2 := (hF.block (w.heap.size + 1) (by omega) (by omega)).trans ((hch (w.heap.size + 1) l2).trans R2.out)
          have S3 : W2.heap[tb]? = some (.cells #[.int .i64 6, .bool false, .int .i64 0, .string ⟨#[]⟩, .slice B4 2 d4, .slice B5 2 d5] 30 (0, 0)) := by rw [← hW]; exact six_set _ _ _ _ _ _ C3
          have hts : tb + 1 ≤ wb.heap.size := by have e1 := hbb.size; have e3 := l3; simp at e1; omega
          have HM2 := Lib.hid ((hmc.less hts).aside hF (Nat.lt_succ_self _))
          have Bw2 := Bc.trans (hF.below Bc.size (fun i hi => by omega))
          clear hW hF hmc hch C3
          revert HM2 Bw2 S1 S2 S3
          revert W2
          revert B4 d4 B5 d5
          exact hP.out
      intro B4 d4 B5 d5 W2 S1 S2 S3 HM2 Bw2
      clear x0 x1 x2 xf yf zf l1 l2 l3 R1 R2 R3 HM Bw y0 y1 y2 y3 y4 y5 z0 z1 z2 z3 z4 z5
      clear W1
      have HM := HM2
      have Bw := Bw2
      clear HM2 Bw2
      obtain ⟨x0, x1, x2, xf⟩ := row3 S1
      obtain ⟨y0, y1, y2, y3, y4, y5, yf⟩ := row6 S2
      obtain ⟨z0, z1, z2, z3, z4, z5, zf⟩ := row6 S3
      have l1 := row_lt S1
      have l2 := row_lt S2
      have l3 := row_lt S3
      have R1 := Lib.hid S1
      have R2 := Lib.hid S2
      have R3 := Lib.hid S3
      clear S1 S2 S3
      go_wp2_with fail
      exact bodyPost_ret (v := .agg #[.int .i64 6, .bool false, .int .i64 0, .string ⟨#[]⟩, .slice B4 2 d4, .slice B5 2 d5]) (by simp only [results, Tryz.results26]; go_simp) rfl (tree_finM HT.out rfl HM.out (t2 := w.heap.size + 1) (by repeat (first | (with_reducible exact Aside.refl _ _) | ((with_reducible refine aside_set ?_ ?_); (focus (simp; done))) | (with_reducible refine aside_alloc ?_))) (by omega) (by omega) HKS.out HTS.out Bw)
    · have HT := Lib.hid (show (taintT k v 2) = pairT [wEffect, wKey, wValue] [⟨#[115, 111, 102, 116]⟩, k, v] by unfold taintT; rw [if_pos ho, h0]; rfl)
      have Hh0 := Lib.hid h0
      have g0 : v.toList.isEmpty = false := by simpa using h0
      have hks : ∀ s ∈ ([wEffect, wKey, wValue] : List ByteArray), s.size ≤ 9223372036854775807 := by intro s hs; simp at hs; rcases hs with rfl | rfl | rfl <;> decide
      have hts : ∀ s ∈ ([⟨#[115, 111, 102, 116]⟩, k, v] : List ByteArray), s.size ≤ 9223372036854775807 := by intro s hs; simp at hs; rcases hs with rfl | rfl | rfl <;> first | exact hk | exact hv | decide
      have HKS := Lib.hid hks
      have HTS := Lib.hid hts
      clear hks hts
      have i1 : (0 : Int) ≤ 2 := by decide
      have i2 : (2 : Int) < 3 := by decide
      go_enter Tryz.func26, Tryz.ntmps26
      go_wp2_with fail
      refine (c_spec_TaintOk k v 2 _ hk hv).mono ?_
      rintro e w1 ⟨rfl, hb⟩
      rw [ho]
      have S1 : w1.heap[w.heap.size]? = some (.cells #[.string k, .string v, .int .i64 2] 64 (0, 0)) := (hb.block w.heap.size (by simp; omega)).trans ((Below.heap_alloc _ _ _ (by simp)).trans (heap_at (by simp)))
      have S2 : w1.heap[w.heap.size + 1]? = some (.cells #[.int .i64 0, .bool false, .int .i64 0, .string ⟨#[]⟩, .slice none 0 0, .slice none 0 0] 30 (0, 0)) := (hb.block (w.heap.size + 1) (by simp)).trans (heap_at (by simp))
      have Bw : Below w.heap.size w w1 := Below.trans bel (hb.mono (by simp; omega))
      have hz := hb.size
      simp at hz
      obtain ⟨x0, x1, x2, xf⟩ := row3 S1
      obtain ⟨y0, y1, y2, y3, y4, y5, yf⟩ := row6 S2
      have l1 := row_lt S1
      have l2 := row_lt S2
      clear hb
      have R1 := Lib.hid S1
      have R2 := Lib.hid S2
      clear S1 S2
      go_wp2_with fail
      obtain ⟨tb, htb⟩ : ∃ tb, tb = w1.heap.size := ⟨_, rfl⟩
      generalize hW : w1.alloc (.cells #[.int .i64 6, .bool false, .int .i64 0, .string ⟨#[]⟩, .slice none 0 0, .slice none 0 0] 30 (0, 0)) = W
      have S1 : W.heap[w.heap.size]? = some (.cells #[.string k, .string v, .int .i64 2] 64 (0, 0)) := by rw [← hW]; exact (Below.heap_alloc _ _ _ l1).trans R1.out
      have S2 : W.heap[w.heap.size + 1]? = some (.cells #[.int .i64 0, .bool false, .int .i64 0, .string ⟨#[]⟩, .slice none 0 0, .slice none 0 0] 30 (0, 0)) := by rw [← hW]; exact (Below.heap_alloc _ _ _ l2).trans R2.out
      have S3 : W.heap[tb]? = some (.cells #[.int .i64 6, .bool false, .int .i64 0, .string ⟨#[]⟩, .slice none 0 0, .slice none 0 0] 30 (0, 0)) := by rw [← hW, htb]; exact heap_at rfl
      have Bw2 : Below w.heap.size w W := by rw [← hW]; exact Bw.alloc (by omega) _
      have HM := Lib.hid (mapRows_nil (base := tb + 1) (w := W))
      have hB : tb < tb + 1 := Nat.lt_succ_self _
      have htw : w.heap.size + 1 < tb := by omega
      clear R1 R2 Bw hW l1 l2 hz x0 x1 x2 xf y0 y1 y2 y3 y4 y5 yf
      rw [← htb]
      clear htb w1
      have Bw := Bw2
      clear Bw2
      obtain ⟨x0, x1, x2, xf⟩ := row3 S1
      obtain ⟨y0, y1, y2, y3, y4, y5, yf⟩ := row6 S2
      obtain ⟨z0, z1, z2, z3, z4, z5, zf⟩ := row6 S3
      have l1 := row_lt S1
      have l2 := row_lt S2
      have l3 := row_lt S3
      have R1 := Lib.hid S1
      have R2 := Lib.hid S2
      have R3 := Lib.hid S3
      clear S1 S2 S3
      refine comb (P := ?P8) (fun hP => ?_) ?_; rotate_left 1
      · go_region_law (first | (go_simp; go_at_call 73; refine (c_l19Effects _).mono ?_; rintro e wa ⟨rfl, hra, hba⟩; obtain ⟨pa0, pa1, pa2, paf⟩ := row3 ((hba.block w.heap.size (by simpa using l1)).trans R1.out); obtain ⟨qa0, qa1, qa2, qa3, qa4, qa5, qaf⟩ := row6 ((hba.block tb (by simpa using l3)).trans R3.out); have la := row_lt hra; obtain ⟨ra0, ra1, ra2, raf⟩ := row3 hra; simp at ra0 ra1 ra2 raf la) | (go_simp; go_at_call 68; refine (c_spec_TextTree _ _).mono ?_; rintro e wb ⟨rfl, hbb⟩; obtain ⟨qb0, qb1, qb2, qb3, qb4, qb5, qbf⟩ := row6 ((hbb.block tb (by have := hba.size; simp at this ⊢; omega)).trans ((hba.block tb (by simpa using l3)).trans R3.out))) | (go_simp; go_at_call 24; refine (c_l20Put [] [] _ _ _ _ _ _ _ _ _ none none 0 0 0 0 _ _ (tb + 1) _ (MapRows.carryB (w := W) HM.out (fun q hq => (hbb.block q (Nat.lt_of_lt_of_le hq hba.size)).trans (hba.block q hq))) rfl (fun x hx => (by simp at hx)) (fun x hx => (by simp at hx)) (by decide)).mono ?_; rintro e wc ⟨vk1, vl1, rfl, hmc, hbc⟩; have hch : ∀ q, q < W.heap.size → wc.heap[q]? = W.heap[q]? := (fun q hq => (hbc.block q (Nat.lt_of_lt_of_le hq (Nat.le_trans hba.size hbb.size))).trans ((fun q hq => (hbb.block q (Nat.lt_of_lt_of_le hq hba.size)).trans (hba.block q hq)) q hq)); obtain ⟨qc0, qc1, qc2, qc3, qc4, qc5, qcf⟩ := row6 ((hch tb l3).trans R3.out); have lc := row_lt ((hch tb l3).trans R3.out); obtain ⟨B4, d4, rfl⟩ := own_form hmc.keys; obtain ⟨B5, d5, rfl⟩ := own_form hmc.kids; (simp only [List.length_append, List.length_cons, List.length_nil, Nat.zero_add] at hmc ⊢)))
        all_goals
          have C3 := (hch tb l3).trans R3.out
          have Bc : Below w.heap.size w wc := bel
          generalize hW : ((((((wc.setCell ⟨tb, 0, none⟩ (.int .i64 6)).setCell ⟨tb, 1, none⟩ (.bool false)).setCell ⟨tb, 2, none⟩ (.int .i64 0)).setCell ⟨tb, 3, none⟩ (.string ⟨#[]⟩)).setCell ⟨tb, 4, none⟩ (.slice B4 1 d4)).setCell ⟨tb, 5, none⟩ (.slice B5 1 d5)) = W1
          have hF : Aside (fun b => b = tb) wc W1 := by rw [← hW]; exact (by repeat (first | (with_reducible exact Aside.refl _ _) | ((with_reducible refine aside_set ?_ ?_); (focus (simp; done))) | (with_reducible refine aside_alloc ?_)))
          have S1 := (hF.block w.heap.size (by omega) (by omega)).trans ((hch w.heap.size l1).trans R1.out)
          have S2 := (hF.block (w.heap.size + 1) (by omega) (by omega)).trans ((hch (w.heap.size + 1) l2).trans R2.out)
          have S3 : W1.heap[tb]? = some (.cells #[.int .i64 6, .bool false, .int .i64 0, .string ⟨#[]⟩, .slice B4 1 d4, .slice B5 1 d5] 30 (0, 0)) := by rw [← hW]; exact six_set _ _ _ _ _ _ C3
          have hts : tb + 1 ≤ wb.heap.size := by have e1 := hbb.size; have e2 := hba.size; have e3 := l3; simp at e2; omega
          have HM2 := Lib.hid ((hmc.less hts).aside hF (Nat.lt_succ_self _))
          have Bw2 := Bc.trans (hF.below Bc.size (fun i hi => by omega))
          clear hW hF hmc hch C3
          revert HM2 Bw2 S1 S2 S3
          revert W1
          revert B4 d4 B5 d5
          exact hP.out
      intro B4 d4 B5 d5 W1 S1 S2 S3 HM2 Bw2
      clear x0 x1 x2 xf yf zf l1 l2 l3 R1 R2 R3 HM Bw y0 y1 y2 y3 y4 y5 z0 z1 z2 z3 z4 z5
      have HM := HM2
      have Bw := Bw2
      clear HM2 Bw2
      obtain ⟨x0, x1, x2, xf⟩ := row3 S1
      obtain ⟨y0, y1, y2, y3, y4, y5, yf⟩ := row6 S2
      obtain ⟨z0, z1, z2, z3, z4, z5, zf⟩ := row6 S3
      have l1 := row_lt S1
      have l2 := row_lt S2
      have l3 := row_lt S3
      have R1 := Lib.hid S1
      have R2 := Lib.hid S2
      have R3 := Lib.hid S3
      clear S1 S2 S3
      go_wp2_with fail
      refine comb (P := ?P9) (fun hP => ?_) ?_; rotate_left 1
      · go_region_law (first | (go_simp; go_at_call 68; refine (c_spec_TextTree _ _).mono ?_; rintro e wb ⟨rfl, hbb⟩; obtain ⟨qb0, qb1, qb2, qb3, qb4, qb5, qbf⟩ := row6 ((hbb.block tb (by simpa using l3)).trans R3.out)) | (go_simp; go_at_call 24; refine (c_l20Put [wEffect] [leafC ⟨#[115, 111, 102, 116]⟩] _ _ _ _ _ _ _ _ _ none none 0 0 0 0 _ _ (tb + 1) _ (MapRows.carryB (w := W1) HM.out (fun q hq => hbb.block q hq)) rfl (fun x hx => (by simp at hx; subst hx; decide)) (fun x hx => (by simp at hx; subst hx; first | exact less_ek | exact less_ev | exact less_kv)) (by decide)).mono ?_; rintro e wc ⟨vk1, vl1, rfl, hmc, hbc⟩; have hch : ∀ q, q < W1.heap.size → wc.heap[q]? = W1.heap[q]? := (fun q hq => (hbc.block q (Nat.lt_of_lt_of_le hq hbb.size)).trans ((fun q hq => hbb.block q hq) q hq)); obtain ⟨qc0, qc1, qc2, qc3, qc4, qc5, qcf⟩ := row6 ((hch tb l3).trans R3.out); have lc := row_lt ((hch tb l3).trans R3.out); obtain ⟨B4, d4, rfl⟩ := own_form hmc.keys; obtain ⟨B5, d5, rfl⟩ := own_form hmc.kids; (simp only [List.length_append, List.length_cons, List.length_nil, Nat.zero_add, Nat.reduceAdd] at hmc ⊢)))
        all_goals
          have C3 := (hch tb l3).trans R3.out
          have Bc : Below w.heap.size w wc := bel
          generalize hW : ((((((wc.setCell ⟨tb, 0, none⟩ (.int .i64 6)).setCell ⟨tb, 1, none⟩ (.bool false)).setCell ⟨tb, 2, none⟩ (.int .i64 0)).setCell ⟨tb, 3, none⟩ (.string ⟨#[]⟩)).setCell ⟨tb, 4, none⟩ (.slice B4 2 d4)).setCell ⟨tb, 5, none⟩ (.slice B5 2 d5)) = W2
          have hF : Aside (fun b => b = tb) wc W2 := by rw [← hW]; exact (by repeat (first | (with_reducible exact Aside.refl _ _) | ((with_reducible refine aside_set ?_ ?_); (focus (simp; done))) | (with_reducible refine aside_alloc ?_)))
          have S1 := (hF.block w.heap.size (by omega) (by omega)).trans ((hch w.heap.size l1).trans R1.out)
          have S2 := (hF.block (w.heap.size + 1) (by omega) (by omega)).trans ((hch (w.heap.size + 1) l2).trans R2.out)
          have S3 : W2.heap[tb]? = some (.cells #[.int .i64 6, .bool false, .int .i64 0, .string ⟨#[]⟩, .slice B4 2 d4, .slice B5 2 d5] 30 (0, 0)) := by rw [← hW]; exact six_set _ _ _ _ _ _ C3
          have hts : tb + 1 ≤ wb.heap.size := by have e1 := hbb.size; have e3 := l3; simp at e1; omega
          have HM2 := Lib.hid ((hmc.less hts).aside hF (Nat.lt_succ_self _))
          have Bw2 := Bc.trans (hF.below Bc.size (fun i hi => by omega))
          clear hW hF hmc hch C3
          revert HM2 Bw2 S1 S2 S3
          revert W2
          revert B4 d4 B5 d5
          exact hP.out
      intro B4 d4 B5 d5 W2 S1 S2 S3 HM2 Bw2
      clear x0 x1 x2 xf yf zf l1 l2 l3 R1 R2 R3 HM Bw y0 y1 y2 y3 y4 y5 z0 z1 z2 z3 z4 z5
      clear W1
      have HM := HM2
      have Bw := Bw2
      clear HM2 Bw2
      obtain ⟨x0, x1, x2, xf⟩ := row3 S1
      obtain ⟨y0, y1, y2, y3, y4, y5, yf⟩ := row6 S2
      obtain ⟨z0, z1, z2, z3, z4, z5, zf⟩ := row6 S3
      have l1 := row_lt S1
      have l2 := row_lt S2
      have l3 := row_lt S3
      have R1 := Lib.hid S1
      have R2 := Lib.hid S2
      have R3 := Lib.hid S3
      clear S1 S2 S3
      go_wp2_with fail
      refine comb (P := ?P10) (fun hP => ?_) ?_; rotate_left 1
      · go_region_law (first | (go_simp; go_at_call 68; refine (c_spec_TextTree _ _).mono ?_; rintro e wb ⟨rfl, hbb⟩; obtain ⟨qb0, qb1, qb2, qb3, qb4, qb5, qbf⟩ := row6 ((hbb.block tb (by simpa using l3)).trans R3.out)) | (go_simp; go_at_call 24; refine (c_l20Put [wEffect, wKey] [leafC ⟨#[115, 111, 102, 116]⟩, leafC k] _ _ _ _ _ _ _ _ _ none none 0 0 0 0 _ _ (tb + 1) _ (MapRows.carryB (w := W2) HM.out (fun q hq => hbb.block q hq)) rfl (fun x hx => (by simp at hx; rcases hx with rfl | rfl <;> decide)) (fun x hx => (by simp at hx; rcases hx with rfl | rfl <;> first | exact less_ek | exact less_ev | exact less_kv)) (by decide)).mono ?_; rintro e wc ⟨vk1, vl1, rfl, hmc, hbc⟩; have hch : ∀ q, q < W2.heap.size → wc.heap[q]? = W2.heap[q]? := (fun q hq => (hbc.block q (Nat.lt_of_lt_of_le hq hbb.size)).trans ((fun q hq => hbb.block q hq) q hq)); obtain ⟨qc0, qc1, qc2, qc3, qc4, qc5, qcf⟩ := row6 ((hch tb l3).trans R3.out); have lc := row_lt ((hch tb l3).trans R3.out); obtain ⟨B4, d4, rfl⟩ := own_form hmc.keys; obtain ⟨B5, d5, rfl⟩ := own_form hmc.kids; (simp only [List.length_append, List.length_cons, List.length_nil, Nat.zero_add, Nat.reduceAdd] at hmc ⊢)))
        all_goals
          have C3 := (hch tb l3).trans R3.out
          have Bc : Below w.heap.size w wc := bel
          generalize hW : ((((((wc.setCell ⟨tb, 0, none⟩ (.int .i64 6)).setCell ⟨tb, 1, none⟩ (.bool false)).setCell ⟨tb, 2, none⟩ (.int .i64 0)).setCell ⟨tb, 3, none⟩ (.string ⟨#[]⟩)).setCell ⟨tb, 4, none⟩ (.slice B4 3 d4)).setCell ⟨tb, 5, none⟩ (.slice B5 3 d5)) = W3
          have hF : Aside (fun b => b = tb) wc W3 := by rw [← hW]; exact (by repeat (first | (with_reducible exact Aside.refl _ _) | ((with_reducible refine aside_set ?_ ?_); (focus (simp; done))) | (with_reducible refine aside_alloc ?_)))
          have S1 := (hF.block w.heap.size (by omega) (by omega)).trans ((hch w.heap.size l1).trans R1.out)
          have S2 := (hF.block (w.heap.size + 1) (by omega) (by omega)).trans ((hch (w.heap.size + 1) l2).trans R2.out)
          have S3 : W3.heap[tb]? = some (.cells #[.int .i64 6, .bool false, .int .i64 0, .string ⟨#[]⟩, .slice B4 3 d4, .slice B5 3 d5] 30 (0, 0)) := by rw [← hW]; exact six_set _ _ _ _ _ _ C3
          have hts : tb + 1 ≤ wb.heap.size := by have e1 := hbb.size; have e3 := l3; simp at e1; omega
          have HM2 := Lib.hid ((hmc.less hts).aside hF (Nat.lt_succ_self _))
          have Bw2 := Bc.trans (hF.below Bc.size (fun i hi => by omega))
          clear hW hF hmc hch C3
          revert HM2 Bw2 S1 S2 S3
          revert W3
          revert B4 d4 B5 d5
          exact hP.out
      intro B4 d4 B5 d5 W3 S1 S2 S3 HM2 Bw2
      clear x0 x1 x2 xf yf zf l1 l2 l3 R1 R2 R3 HM Bw y0 y1 y2 y3 y4 y5 z0 z1 z2 z3 z4 z5
      clear W2
      have HM := HM2
      have Bw := Bw2
      clear HM2 Bw2
      obtain ⟨x0, x1, x2, xf⟩ := row3 S1
      obtain ⟨y0, y1, y2, y3, y4, y5, yf⟩ := row6 S2
      obtain ⟨z0, z1, z2, z3, z4, z5, zf⟩ := row6 S3
      have l1 := row_lt S1
      have l2 := row_lt S2
      have l3 := row_lt S3
      have R1 := Lib.hid S1
      have R2 := Lib.hid S2
      have R3 := Lib.hid S3
      clear S1 S2 S3
      go_wp2_with fail
      exact bodyPost_ret (v := .agg #[.int .i64 6, .bool false, .int .i64 0, .string ⟨#[]⟩, .slice B4 3 d4, .slice B5 3 d5]) (by simp only [results, Tryz.results26]; go_simp) rfl (tree_finM HT.out rfl HM.out (t2 := w.heap.size + 1) (by repeat (first | (with_reducible exact Aside.refl _ _) | ((with_reducible refine aside_set ?_ ?_); (focus (simp; done))) | (with_reducible refine aside_alloc ?_))) (by omega) (by omega) HKS.out HTS.out Bw)
end Go.Proofs.YteecgklmdfockaaGreatDoor
