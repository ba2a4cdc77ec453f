/- Written by wip/tools/pack.py: the texts that FnExactPodTree needs, without what it does not need. No conditions. -/
import Derived.Test.YteecgklmdfockaaGreatDoorKFnExactPodTree8
import Derived.Test.YteecgklmdfockaaGreatDoorKFnExactPodTree10
namespace Go.Proofs.YteecgklmdfockaaGreatDoor
open Go.RowKit
theorem row5 {w : World} {b : Nat} {a0 a1 a2 a3 a4 : Value} {e : TypeId} (hr : w.heap[b]? = some (.cells #[a0, a1, a2, a3, a4] e (0, 0))) :
    w.cell? ⟨b, 0, none⟩ = some a0 ∧ w.cell? ⟨b, 1, none⟩ = some a1 ∧ w.cell? ⟨b, 2, none⟩ = some a2 ∧ w.cell? ⟨b, 3, none⟩ = some a3 ∧ w.cell? ⟨b, 4, none⟩ = some a4 ∧ ∀ o, w.frozen? ⟨b, o, none⟩ = false :=
  ⟨by rw [cell_of_row _ _ _ _ _ _ hr]; rfl, by rw [cell_of_row _ _ _ _ _ _ hr]; rfl, by rw [cell_of_row _ _ _ _ _ _ hr]; rfl, by rw [cell_of_row _ _ _ _ _ _ hr]; rfl, by rw [cell_of_row _ _ _ _ _ _ hr]; rfl, fun o => frozen_row hr o⟩
theorem op_size (x : Int) : (opW x).size ≤ 9223372036854775807 := by
  unfold opW
  repeat' split
  all_goals decide
theorem need_few {d : Need} (h : needOkB d = true) : d.values.length ≤ 4 ∧ 1 ≤ d.op ∧ d.op ≤ 4 := by
  unfold needOkB at h
  simp only [Bool.and_eq_true] at h
  have h1 := h.1.2
  simp only [inB, decide_eq_true_eq] at h1
  refine ⟨?_, h1.1, h1.2⟩
  have h2 := h.2
  split at h2
  · simp at h2; rw [h2]; decide
  · simp only [inB, Bool.and_eq_true, decide_eq_true_eq] at h2; omega
def wordsN : List ByteArray := [wKey, wOp, wValues]
theorem words_ok : ∀ k ∈ wordsN, k.size ≤ 9223372036854775807 := by intro s hs; simp [wordsN] at hs; rcases hs with rfl | rfl | rfl <;> decide
theorem tree_finN {n base t2 : Nat} {w w2 wF : World} {T dl : TreeD} {a o : ByteArray} {cs2 : List Value} {S2 : Nat → Prop} {vk vl : Value} (hT : T = ⟨6, false, 0, ⟨#[]⟩, wordsN, [leafD a, leafD o, dl]⟩) (hk : w2.ownsRow base 9 1 vk 3 (wordsN.map Value.string)) (hl : w2.ownsRow base 30 6 vl 3 [leafC a, leafC o, cs2].flatten) (hO : OwnT (n + 2) S2 w2 dl cs2)
    (hS2 : ∀ b, S2 b → t2 < b ∧ b < w2.heap.size ∧ vk.ownBlock ≠ some b ∧ vl.ownBlock ≠ some b) (hF : Aside (fun b => b = t2) w2 wF) (h2 : t2 < base) (hw2 : w.heap.size ≤ t2) (ha : a.size ≤ 9223372036854775807) (ho : o.size ≤ 9223372036854775807) (hb : Below w.heap.size w w2) :
    ∃ cs, Ending.returned (.agg #[.int .i64 6, .bool false, .int .i64 0, .string ⟨#[]⟩, vk, vl]) = Ending.returned (.agg cs.toArray) ∧ OwnT (n + 3) (fun b => w.heap.size ≤ b ∧ b < wF.heap.size) wF T cs ∧ Below w.heap.size w wF := by
  subst hT
  refine ⟨[.int .i64 6, .bool false, .int .i64 0, .string ⟨#[]⟩, vk, vl], rfl, own_map (n := n + 2) (base := base) (css := [leafC a, leafC o, cs2]) (fun i b => i = 2 ∧ S2 b) rfl ?_ (ownsRow_carry hk (fun q hq => hF.block q (hk.lt q hq).2 (by have := (hk.lt q hq).1; omega))) (ownsRow_carry hl (fun q hq => hF.block q (hl.lt q hq).2 (by have := (hl.lt q hq).1; omega))) words_ok ?_ ?_ ?_ (fun b h1 h3 => ⟨by omega, h3⟩), hb.trans (hF.below hb.size (fun i hi => by omega))⟩
  · intro es h
    simp at h
    rcases h with rfl | rfl | rfl
    · rfl
    · rfl
    · exact hO.len
  · rintro i b ⟨rfl, h⟩
    have h3 := hS2 b h
    have h4 := hF.size
    exact ⟨⟨by omega, by omega⟩, h3.2.2⟩
  · rintro i j b ⟨rfl, -⟩ ⟨rfl, -⟩
    rfl
  · intro i d es h1 h3
    match i, h1, h3 with
    | 0, h1, h3 => simp at h1 h3; subst h1 h3; exact own_leafT ha
    | 1, h1, h3 => simp at h1 h3; subst h1 h3; exact own_leafT ho
    | 2, h1, h3 =>
      simp at h1 h3
      subst h1 h3
      exact hO.carry (fun b hb => hF.block b (hS2 b hb).2.1 (by have := (hS2 b hb).1; omega)) (fun b hb => ⟨rfl, hb⟩)
    | i + 3, h1, h3 => simp at h1
theorem op_cell {w : World} {b : Nat} {x d : Int} {wd : ByteArray} (hr : w.heap[b]? = some (.cells #[.string ⟨#[]⟩, .string ⟨#[105, 110]⟩, .string ⟨#[110, 111, 116, 105, 110]⟩, .string ⟨#[104, 97, 115]⟩, .string ⟨#[104, 97, 115, 110, 111, 116]⟩] 9 (0, 0))) (hx : x = d) (hw : wd = opW d) (h : x = 1 ∨ x = 2 ∨ x = 3 ∨ x = 4) : w.cell? ⟨b, d.toNat, none⟩ = some (.string wd) := by
  subst hx hw
  obtain ⟨r0, r1, r2, r3, r4, -⟩ := row5 hr
  rcases h with rfl | rfl | rfl | rfl
  · exact r1
  · exact r2
  · exact r3
  · exact r4
theorem nTree_leaf (n : Nat) (t : ByteArray) : nTree (n + 1) (leafD t) = t.size := by rw [nTree_succ]; simp [leafD, nL, szL]
theorem nTree_list (n : Nat) (vs : List ByteArray) : nTree (n + 2) (listT vs) = nL ByteArray.size vs := by
  have h : ∀ l : List ByteArray, szL (nTree (n + 1)) (l.map leafD) = szL ByteArray.size l := by
    intro l
    induction l with
    | nil => rfl
    | cons t l ih => simp only [List.map_cons, szL]; rw [ih, nTree_leaf]
  rw [nTree_succ]
  have e1 := nL_def (nTree (n + 1)) (vs.map leafD)
  have e2 := nL_def ByteArray.size vs
  rw [h, List.length_map] at e1
  show (⟨#[]⟩ : ByteArray).size + nL ByteArray.size [] + nL (nTree (n + 1)) (vs.map leafD) = _
  rw [e1, e2]
  simp [nL, szL]
  rfl
theorem less_ko : lessS wKey wOp = true := by simp [lessS, wKey, wOp, ByteArray.toList_eq, Op.bytesLess]
theorem less_kvs : lessS wKey wValues = true := by simp [lessS, wKey, wValues, ByteArray.toList_eq, Op.bytesLess]
theorem less_ovs : lessS wOp wValues = true := by simp [lessS, wOp, wValues, ByteArray.toList_eq, Op.bytesLess]
theorem needT_none {d : Need} (h : needOkB d = false) : needT d = tree0 := by unfold needT; rw [if_neg (by rw [h]; decide)]
theorem needT_two {d : Need} (h : needOkB d = true) (h0 : d.values.length = 0) : needT d = pairT [wKey, wOp] [d.key, opW d.op] := by unfold needT; rw [if_pos h, if_pos h0]
theorem needT_three {d : Need} (h : needOkB d = true) (h0 : ¬ d.values.length = 0) : needT d = ⟨6, false, 0, ⟨#[]⟩, wordsN, [leafD d.key, leafD (opW d.op), listT d.values]⟩ := by unfold needT; rw [if_pos h, if_neg h0]; rfl
set_option maxHeartbeats 4000000 in
set_option maxRecDepth 10000 in
theorem c_impl_NeedTree (n : Nat) (d : Need) (cs : List Value) (w : World) (lo : Nat) (hs : C_Need lo w.heap.size w d cs) : Calls Tryz.prog 55 #[.agg cs.toArray] w fun e w' => ∃ cs', e = .returned (.agg cs'.toArray) ∧ OwnT (n + 3) (fun b => w.heap.size ≤ b ∧ b < w'.heap.size) w' (needT d) cs' ∧ Below w.heap.size w w' := by
  have hC := hs
  obtain ⟨v2, rfl, a0, a1, a2⟩ := hs
  obtain ⟨A, c, rfl⟩ := a2.form
  have HA := Lib.hid a2
  have HCN := Lib.hid hC
  have hts : ∀ t ∈ d.values, t.size ≤ 9223372036854775807 := size_strs a2
  have HTS := Lib.hid hts
  clear a2 hC hts
  rcases ho : needOkB d with _ | _
  · have HT := Lib.hid (needT_none ho)
    go_enter Tryz.func55, Tryz.ntmps55
    go_wp2_with fail
    refine (c_impl_NeedOk d [.string d.key, .int .i64 d.op, .slice A d.values.length c] _ lo (C_Need.now HCN.out bel)).mono ?_
    rintro e w1 ⟨rfl, hb⟩
    rw [ho]
    have Z := (hb.block (w.heap.size + 1) (by simp)).trans (heap_at (by simp))
    have hl := row_lt Z
    obtain ⟨x0, x1, x2, x3, x4, x5, xf⟩ := row6 Z
    have Bw : Below w.heap.size w w1 := Below.trans bel (hb.mono (by simp; omega))
    clear Z hb
    go_wp2_with fail
    exact bodyPost_ret (v := .agg #[.int .i64 0, .bool false, .int .i64 0, .string ⟨#[]⟩, .slice none 0 0, .slice none 0 0]) (by simp only [results, Tryz.results55]; go_simp) rfl (tree_fin0 (n := n + 1) HT.out (Bw.trans (Aside.below (S := fun b => b = w.heap.size + 1) (by repeat (first | (with_reducible exact Aside.refl _ _) | ((with_reducible refine aside_set ?_ ?_); (focus (simp; done))) | (with_reducible refine aside_alloc ?_))) Bw.size (fun i hi => by omega))))
  · have hfew := need_few ho
    obtain ⟨hf1, hf2, hf3⟩ := hfew
    by_cases h0 : d.values.length = 0
    · have HT := Lib.hid (needT_two ho h0)
      have hl0 : ¬ (0 : Int) < d.values.length := by omega
      have Hho := Lib.hid ho
      clear h0
      go_enter Tryz.func55, Tryz.ntmps55
      go_wp2_with fail
      refine (c_impl_NeedOk d [.string d.key, .int .i64 d.op, .slice A d.values.length c] _ lo (C_Need.now HCN.out bel)).mono ?_
      rintro e w1 ⟨rfl, hb⟩
      rw [ho]
      have S1 : w1.heap[w.heap.size]? = some (.cells #[.string d.key, .int .i64 d.op, .slice A d.values.length c] 84 (0, 0)) := (hb.block w.heap.size (by simp; omega)).trans ((Below.heap_alloc _ _ _ (by simp)).trans (heap_at (by simp)))
      have S2 : w1.heap[w.heap.size + 1]? = some (.cells #[.int .i64 0, .bool false, .int .i64 0, .string ⟨#[]⟩, .slice none 0 0, .slice none 0 0] 30 (0, 0)) := (hb.block (w.heap.size + 1) (by simp)).trans (heap_at (by simp))
      have Bw : Below w.heap.size w w1 := Below.trans bel (hb.mono (by simp; omega))
      have hz := hb.size
      simp at hz
      obtain ⟨x0, x1, x2, xf⟩ := row3 S1
      obtain ⟨y0, y1, y2, y3, y4, y5, yf⟩ := row6 S2
      have l1 := row_lt S1
      have l2 := row_lt S2
      have R1 := Lib.hid S1
      have R2 := Lib.hid S2
      clear S1 S2 hb
      go_wp2_with fail
      refine (c_impl_TextTree d.key _).mono ?_
      rintro e w2 ⟨rfl, hb⟩
      have L : LeafMap (w1.heap.size + 1) w1.heap.size w2 [] [] (.slice none 0 0) (.slice none 0 0) := leafMap_nil ((hb.block w1.heap.size (by simp)).trans (heap_at (by simp)))
      have Bt : Below w1.heap.size w1 w2 := Below.trans bel (hb.mono (by simp; try omega))
      have ht := hb.size
      simp at ht
      have HL := Lib.hid L
      clear L
      have K1 := Lib.hid R1.out
      have K2 := Lib.hid R2.out
      have S1 := (Bt.block w.heap.size (by omega)).trans K1.out
      have S2 := (Bt.block (w.heap.size + 1) (by omega)).trans K2.out
      clear R1 R2 x0 x1 x2 xf y0 y1 y2 y3 y4 y5 yf l1 l2
      obtain ⟨x0, x1, x2, xf⟩ := row3 S1
      obtain ⟨y0, y1, y2, y3, y4, y5, yf⟩ := row6 S2
      have l1 := row_lt S1
      have l2 := row_lt S2
      have R1 := Lib.hid S1
      have R2 := Lib.hid S2
      clear S1 S2 hb
      go_wp2_with fail
      refine (c_addLeaf [] [] wKey d.key _ _ w1.heap.size (w1.heap.size + 1) _ HL.out (by omega) (by simp) (by simp)).mono ?_
      rintro e w3 ⟨vk1, vl1, rfl, hL, hb, hzz⟩
      clear HL
      have HL := Lib.hid hL
      clear hL
      have Bt2 := Bt.trans hb
      clear Bt
      have Bt := Bt2
      clear Bt2
      have ht3 := Nat.le_trans ht hzz
      clear ht hzz
      have ht := ht3
      clear ht3
      have S1 := (Bt.block w.heap.size (by omega)).trans K1.out
      have S2 := (Bt.block (w.heap.size + 1) (by omega)).trans K2.out
      clear R1 R2 x0 x1 x2 xf y0 y1 y2 y3 y4 y5 yf l1 l2
      obtain ⟨x0, x1, x2, xf⟩ := row3 S1
      obtain ⟨y0, y1, y2, y3, y4, y5, yf⟩ := row6 S2
      have l1 := row_lt S1
      have l2 := row_lt S2
      have R1 := Lib.hid S1
      have R2 := Lib.hid S2
      clear S1 S2 hb
      go_wp2_with fail
      refine (c_needWord d.op _).mono ?_
      rintro e w4 ⟨rfl, hb⟩
      have L := HL.out.carry hb
      clear HL
      have HL := Lib.hid L
      clear L
      have Bt2 := Bt.trans (hb.mono (by omega))
      clear Bt
      have Bt := Bt2
      clear Bt2
      have ht2 := hb.size
      have ht3 := Nat.le_trans ht ht2
      clear ht ht2
      have ht := ht3
      clear ht3
      have S1 := (Bt.block w.heap.size (by omega)).trans K1.out
      have S2 := (Bt.block (w.heap.size + 1) (by omega)).trans K2.out
      clear R1 R2 x0 x1 x2 xf y0 y1 y2 y3 y4 y5 yf l1 l2
      obtain ⟨x0, x1, x2, xf⟩ := row3 S1
      obtain ⟨y0, y1, y2, y3, y4, y5, yf⟩ := row6 S2
      have l1 := row_lt S1
      have l2 := row_lt S2
      have R1 := Lib.hid S1
      have R2 := Lib.hid S2
      clear S1 S2 hb
      go_wp2_with fail
      refine (c_impl_TextTree (opW d.op) _).mono ?_
      rintro e w5 ⟨rfl, hb⟩
      have L := HL.out.carry hb
      clear HL
      have HL := Lib.hid L
      clear L
      have Bt2 := Bt.trans (hb.mono (by omega))
      clear Bt
      have Bt := Bt2
      clear Bt2
      have ht2 := hb.size
      have ht3 := Nat.le_trans ht ht2
      clear ht ht2
      have ht := ht3
      clear ht3
      have S1 := (Bt.block w.heap.size (by omega)).trans K1.out
      have S2 := (Bt.block (w.heap.size + 1) (by omega)).trans K2.out
      clear R1 R2 x0 x1 x2 xf y0 y1 y2 y3 y4 y5 yf l1 l2
      obtain ⟨x0, x1, x2, xf⟩ := row3 S1
      obtain ⟨y0, y1, y2, y3, y4, y5, yf⟩ := row6 S2
      have l1 := row_lt S1
      have l2 := row_lt S2
      have R1 := Lib.hid S1
      have R2 := Lib.hid S2
      clear S1 S2 hb
      go_wp2_with fail
      refine (c_addLeaf [wKey] [leafC d.key] wOp (opW d.op) _ _ w1.heap.size (w1.heap.size + 1) _ HL.out (by omega) (by simp) (by simp)).mono ?_
      rintro e w6 ⟨vk2, vl2, rfl, hL, hb, hzz⟩
      clear HL
      have HL := Lib.hid hL
      clear hL
      have Bt2 := Bt.trans hb
      clear Bt
      have Bt := Bt2
      clear Bt2
      have ht3 := Nat.le_trans ht hzz
      clear ht hzz
      have ht := ht3
      clear ht3
      have S1 := (Bt.block w.heap.size (by omega)).trans K1.out
      have S2 := (Bt.block (w.heap.size + 1) (by omega)).trans K2.out
      clear R1 R2 x0 x1 x2 xf y0 y1 y2 y3 y4 y5 yf l1 l2
      obtain ⟨x0, x1, x2, xf⟩ := row3 S1
      obtain ⟨y0, y1, y2, y3, y4, y5, yf⟩ := row6 S2
      have l1 := row_lt S1
      have l2 := row_lt S2
      have R1 := Lib.hid S1
      have R2 := Lib.hid S2
      clear S1 S2 hb
      have HR := HL.out.row
      obtain ⟨t0, t1, t2, t3, t4, t5, tf⟩ := row6 HR
      have l3 := row_lt HR
      clear HR
      obtain ⟨A4, c4, rfl⟩ := own_form HL.out.keys
      obtain ⟨A5, c5, rfl⟩ := own_form HL.out.kids
      have Bw2 := Bw.trans (Bt.mono (by omega))
      have ne1 : w1.heap.size ≠ w.heap.size + 1 := by omega
      go_wp2_with fail
      exact bodyPost_ret (v := .agg #[.int .i64 6, .bool false, .int .i64 0, .string ⟨#[]⟩, .slice A4 2 c4, .slice A5 2 c5]) (by simp only [results, Tryz.results55]; go_simp) rfl (tree_finL (n := n + 1) HT.out rfl HL.out (t2 := w.heap.size + 1) (by repeat (first | (with_reducible exact Aside.refl _ _) | ((with_reducible refine aside_set ?_ ?_); (focus (simp; done))) | (with_reducible refine aside_alloc ?_))) (by omega) (by omega) (fun s hs => words_ok s (by simp [wordsN] at hs ⊢; rcases hs with h | h <;> simp [h])) (by intro s hs; simp at hs; rcases hs with rfl | rfl; exact a0; exact op_size _) Bw2)
    · have HT := Lib.hid (needT_three ho h0)
      have hl0 : (0 : Int) < d.values.length := by omega
      have hl0n : 0 < d.values.length := by omega
      have Hho := Lib.hid ho
      clear h0
      go_enter Tryz.func55, Tryz.ntmps55
      go_wp2_with fail
      refine (c_impl_NeedOk d [.string d.key, .int .i64 d.op, .slice A d.values.length c] _ lo (C_Need.now HCN.out bel)).mono ?_
      rintro e w1 ⟨rfl, hb⟩
      rw [ho]
      have S1 : w1.heap[w.heap.size]? = some (.cells #[.string d.key, .int .i64 d.op, .slice A d.values.length c] 84 (0, 0)) := (hb.block w.heap.size (by simp; omega)).trans ((Below.heap_alloc _ _ _ (by simp)).trans (heap_at (by simp)))
      have S2 : w1.heap[w.heap.size + 1]? = some (.cells #[.int .i64 0, .bool false, .int .i64 0, .string ⟨#[]⟩, .slice none 0 0, .slice none 0 0] 30 (0, 0)) := (hb.block (w.heap.size + 1) (by simp)).trans (heap_at (by simp))
      have Bw : Below w.heap.size w w1 := Below.trans bel (hb.mono (by simp; omega))
      have hz := hb.size
      simp at hz
      obtain ⟨x0, x1, x2, xf⟩ := row3 S1
      obtain ⟨y0, y1, y2, y3, y4, y5, yf⟩ := row6 S2
      have l1 := row_lt S1
      have l2 := row_lt S2
      have R1 := Lib.hid S1
      have R2 := Lib.hid S2
      clear S1 S2 hb
      go_wp2_with fail
      refine (c_impl_TextTree d.key _).mono ?_
      rintro e w2 ⟨rfl, hb⟩
      have L : LeafMap (w1.heap.size + 1) w1.heap.size w2 [] [] (.slice none 0 0) (.slice none 0 0) := leafMap_nil ((hb.block w1.heap.size (by simp)).trans (heap_at (by simp)))
      have Bt : Below w1.heap.size w1 w2 := Below.trans bel (hb.mono (by simp; try omega))
      have ht := hb.size
      simp at ht
      have HL := Lib.hid L
      clear L
      have K1 := Lib.hid R1.out
      have K2 := Lib.hid R2.out
      have S1 := (Bt.block w.heap.size (by omega)).trans K1.out
      have S2 := (Bt.block (w.heap.size + 1) (by omega)).trans K2.out
      clear R1 R2 x0 x1 x2 xf y0 y1 y2 y3 y4 y5 yf l1 l2
      obtain ⟨x0, x1, x2, xf⟩ := row3 S1
      obtain ⟨y0, y1, y2, y3, y4, y5, yf⟩ := row6 S2
      have l1 := row_lt S1
      have l2 := row_lt S2
      have R1 := Lib.hid S1
      have R2 := Lib.hid S2
      clear S1 S2 hb
      go_wp2_with fail
      refine (c_addLeaf [] [] wKey d.key _ _ w1.heap.size (w1.heap.size + 1) _ HL.out (by omega) (by simp) (by simp)).mono ?_
      rintro e w3 ⟨vk1, vl1, rfl, hL, hb, hzz⟩
      clear HL
      have HL := Lib.hid hL
      clear hL
      have Bt2 := Bt.trans hb
      clear Bt
      have Bt := Bt2
      clear Bt2
      have ht3 := Nat.le_trans ht hzz
      clear ht hzz
      have ht := ht3
      clear ht3
      have S1 := (Bt.block w.heap.size (by omega)).trans K1.out
      have S2 := (Bt.block (w.heap.size + 1) (by omega)).trans K2.out
      clear R1 R2 x0 x1 x2 xf y0 y1 y2 y3 y4 y5 yf l1 l2
      obtain ⟨x0, x1, x2, xf⟩ := row3 S1
      obtain ⟨y0, y1, y2, y3, y4, y5, yf⟩ := row6 S2
      have l1 := row_lt S1
      have l2 := row_lt S2
      have R1 := Lib.hid S1
      have R2 := Lib.hid S2
      clear S1 S2 hb
      go_wp2_with fail
      refine (c_needWord d.op _).mono ?_
      rintro e w4 ⟨rfl, hb⟩
      have L := HL.out.carry hb
      clear HL
      have HL := Lib.hid L
      clear L
      have Bt2 := Bt.trans (hb.mono (by omega))
      clear Bt
      have Bt := Bt2
      clear Bt2
      have ht2 := hb.size
      have ht3 := Nat.le_trans ht ht2
      clear ht ht2
      have ht := ht3
      clear ht3
      have S1 := (Bt.block w.heap.size (by omega)).trans K1.out
      have S2 := (Bt.block (w.heap.size + 1) (by omega)).trans K2.out
      clear R1 R2 x0 x1 x2 xf y0 y1 y2 y3 y4 y5 yf l1 l2
      obtain ⟨x0, x1, x2, xf⟩ := row3 S1
      obtain ⟨y0, y1, y2, y3, y4, y5, yf⟩ := row6 S2
      have l1 := row_lt S1
      have l2 := row_lt S2
      have R1 := Lib.hid S1
      have R2 := Lib.hid S2
      clear S1 S2 hb
      go_wp2_with fail
      refine (c_impl_TextTree (opW d.op) _).mono ?_
      rintro e w5 ⟨rfl, hb⟩
      have L := HL.out.carry hb
      clear HL
      have HL := Lib.hid L
      clear L
      have Bt2 := Bt.trans (hb.mono (by omega))
      clear Bt
      have Bt := Bt2
      clear Bt2
      have ht2 := hb.size
      have ht3 := Nat.le_trans ht ht2
      clear ht ht2
      have ht := ht3
      clear ht3
      have S1 := (Bt.block w.heap.size (by omega)).trans K1.out
      have S2 := (Bt.block (w.heap.size + 1) (by omega)).trans K2.out
      clear R1 R2 x0 x1 x2 xf y0 y1 y2 y3 y4 y5 yf l1 l2
      obtain ⟨x0, x1, x2, xf⟩ := row3 S1
      obtain ⟨y0, y1, y2, y3, y4, y5, yf⟩ := row6 S2
      have l1 := row_lt S1
      have l2 := row_lt S2
      have R1 := Lib.hid S1
      have R2 := Lib.hid S2
      clear S1 S2 hb
      go_wp2_with fail
      refine (c_addLeaf [wKey] [leafC d.key] wOp (opW d.op) _ _ w1.heap.size (w1.heap.size + 1) _ HL.out (by omega) (by simp) (by simp)).mono ?_
      rintro e w6 ⟨vk2, vl2, rfl, hL, hb, hzz⟩
      clear HL
      have HL := Lib.hid hL
      clear hL
      have Bt2 := Bt.trans hb
      clear Bt
      have Bt := Bt2
      clear Bt2
      have ht3 := Nat.le_trans ht hzz
      clear ht hzz
      have ht := ht3
      clear ht3
      have S1 := (Bt.block w.heap.size (by omega)).trans K1.out
      have S2 := (Bt.block (w.heap.size + 1) (by omega)).trans K2.out
      clear R1 R2 x0 x1 x2 xf y0 y1 y2 y3 y4 y5 yf l1 l2
      obtain ⟨x0, x1, x2, xf⟩ := row3 S1
      obtain ⟨y0, y1, y2, y3, y4, y5, yf⟩ := row6 S2
      have l1 := row_lt S1
      have l2 := row_lt S2
      have R1 := Lib.hid S1
      have R2 := Lib.hid S2
      clear S1 S2 hb
      go_wp2_with fail
      refine (c_listOfS d.values _ _ lo (HA.out.now (Bw.trans (Bt.mono (by omega)))) (by omega)).mono ?_
      rintro e w7 ⟨vq, rfl, hq, hb⟩
      have htl := ht
      rw [List.length_map] at hq
      obtain ⟨A8, c8, rfl⟩ := own_form hq
      have HQ := Lib.hid hq
      clear hq
      have hqb : ∀ b, (Value.slice A8 d.values.length c8).ownBlock = some b → w6.heap.size ≤ b ∧ b < w7.heap.size := fun b hb => HQ.out.lt b hb
      have HQB := Lib.hid hqb
      clear hqb
      have hq5 : ∀ b, vl2.ownBlock = some b → b < w6.heap.size := fun b hb => (HL.out.kids.lt b hb).2
      have HQ5 := Lib.hid hq5
      clear hq5
      have L := HL.out.carry hb
      clear HL
      have HL := Lib.hid L
      clear L
      have Bt2 := Bt.trans (hb.mono (by omega))
      clear Bt
      have Bt := Bt2
      clear Bt2
      have ht2 := hb.size
      have ht3 := Nat.le_trans ht ht2
      clear ht
      have ht := ht3
      clear ht3
      have S1 := (Bt.block w.heap.size (by omega)).trans K1.out
      have S2 := (Bt.block (w.heap.size + 1) (by omega)).trans K2.out
      clear R1 R2 x0 x1 x2 xf y0 y1 y2 y3 y4 y5 yf l1 l2
      obtain ⟨x0, x1, x2, xf⟩ := row3 S1
      obtain ⟨y0, y1, y2, y3, y4, y5, yf⟩ := row6 S2
      have l1 := row_lt S1
      have l2 := row_lt S2
      have R1 := Lib.hid S1
      have R2 := Lib.hid S2
      clear S1 S2 hb
      go_wp2_with fail
      refine (c_addKid2 [wKey, wOp] [leafC d.key, leafC (opW d.op)] wValues ⟨#[]⟩ 5 0 false none A8 0 0 d.values.length c8 _ _ w1.heap.size (w1.heap.size + 1) _ HL.out (by omega) (by simp) (by simp)).mono ?_
      rintro e w8 ⟨vk3, vl3, rfl, hL, hA2, hql⟩
      have hb : Below w1.heap.size w7 w8 := hA2.below (Nat.le_of_lt (row_lt HL.out.row)) (by
        rintro i (rfl | hi | hi)
        · exact Nat.le_refl _
        · have := (HL.out.keys.lt i hi).1; omega
        · have := (HL.out.kids.lt i hi).1; omega)
      have hzz := hA2.size
      have hqs := HQ.out
      have HQ3 := Lib.hid (ownsRow_carry HQ.out (w' := w8) (fun q hq => hA2.block q (HQ.out.lt q hq).2 (by
        have h1 := HQB.out q hq
        rintro (rfl | h2 | h2)
        · omega
        · exact own_apart HL.out.keys HQ.out (by decide) q h2 hq
        · have := HQ5.out q h2; omega)))
      have HQ4 := Lib.hid (fun b (hq : (Value.slice A8 d.values.length c8).ownBlock = some b) => (show vl3.ownBlock ≠ some b from fun h2 => by
        have h1 := HQB.out b hq
        rcases hql b h2 with h3 | h3
        · have := HQ5.out b h3; omega
        · omega))
      have HQ6 := Lib.hid (own_apart hL.keys HQ3.out (by decide))
      clear hA2 hql hqs
      clear HL
      have HL := Lib.hid hL
      clear hL
      have Bt2 := Bt.trans hb
      clear Bt
      have Bt := Bt2
      clear Bt2
      have ht3 := Nat.le_trans ht hzz
      clear ht
      have ht := ht3
      clear ht3
      have S1 := (Bt.block w.heap.size (by omega)).trans K1.out
      have S2 := (Bt.block (w.heap.size + 1) (by omega)).trans K2.out
      clear R1 R2 x0 x1 x2 xf y0 y1 y2 y3 y4 y5 yf l1 l2
      obtain ⟨x0, x1, x2, xf⟩ := row3 S1
      obtain ⟨y0, y1, y2, y3, y4, y5, yf⟩ := row6 S2
      have l1 := row_lt S1
      have l2 := row_lt S2
      have R1 := Lib.hid S1
      have R2 := Lib.hid S2
      clear S1 S2 hb
      have HR := HL.out.row
      obtain ⟨t0, t1, t2, t3, t4, t5, tf⟩ := row6 HR
      have l3 := row_lt HR
      clear HR
      obtain ⟨A4, c4, rfl⟩ := own_form HL.out.keys
      obtain ⟨A5, c5, rfl⟩ := own_form HL.out.kids
      have Bw2 := Bw.trans (Bt.mono (by omega))
      have ne1 : w1.heap.size ≠ w.heap.size + 1 := by omega
      go_wp2_with fail
      exact bodyPost_ret (v := .agg #[.int .i64 6, .bool false, .int .i64 0, .string ⟨#[]⟩, .slice A4 3 c4, .slice A5 3 c5]) (by simp only [results, Tryz.results55]; go_simp) rfl (tree_finN HT.out (base := w1.heap.size + 1) HL.out.keys HL.out.kids (own_list (n := n) (by rw [List.length_map]; exact HQ3.out) HTS.out) (fun b hb => ⟨by have := (HQB.out b hb).1; omega, (HQ3.out.lt b hb).2, fun h => HQ6.out b h hb, HQ4.out b hb⟩) (t2 := w.heap.size + 1) (by repeat (first | (with_reducible exact Aside.refl _ _) | ((with_reducible refine aside_set ?_ ?_); (focus (simp; done))) | (with_reducible refine aside_alloc ?_))) (by omega) (by omega) a0 (op_size _) Bw2)
set_option maxHeartbeats 4000000 in
set_option maxRecDepth 10000 in
theorem c_spec_NeedTree (n : Nat) (d : Need) (cs : List Value) (w : World) (lo : Nat) (hs : C_Need lo w.heap.size w d cs) (hsz : nL ByteArray.size d.values ≤ 1048576) : Calls Tryz.prog 49 #[.agg cs.toArray] w fun e w' => ∃ cs', e = .returned (.agg cs'.toArray) ∧ OwnT (n + 3) (fun b => w.heap.size ≤ b ∧ b < w'.heap.size) w' (needT d) cs' ∧ Below w.heap.size w w' := by
  have hC := hs
  obtain ⟨v2, rfl, a0, a1, a2⟩ := hs
  obtain ⟨A, c, rfl⟩ := a2.form
  have HA := Lib.hid a2
  have HCN := Lib.hid hC
  have hts : ∀ t ∈ d.values, t.size ≤ 9223372036854775807 := size_strs a2
  have HTS := Lib.hid hts
  clear a2 hC hts
  rcases ho : needOkB d with _ | _
  · have HT := Lib.hid (needT_none ho)
    go_enter Tryz.func49, Tryz.ntmps49
    go_wp2_with fail
    refine (c_spec_NeedOk d [.string d.key, .int .i64 d.op, .slice A d.values.length c] _ lo (C_Need.now HCN.out bel)).mono ?_
    rintro e w1 ⟨rfl, hb⟩
    rw [ho]
    have Z := (hb.block (w.heap.size + 1) (by simp)).trans (heap_at (by simp))
    have hl := row_lt Z
    obtain ⟨x0, x1, x2, x3, x4, x5, xf⟩ := row6 Z
    have Bw : Below w.heap.size w w1 := Below.trans bel (hb.mono (by simp; omega))
    clear Z hb
    go_wp2_with fail
    exact bodyPost_ret (v := .agg #[.int .i64 0, .bool false, .int .i64 0, .string ⟨#[]⟩, .slice none 0 0, .slice none 0 0]) (by simp only [results, Tryz.results49]; go_simp) rfl (tree_fin0 (n := n + 1) HT.out (Bw.trans (Aside.below (S := fun b => b = w.heap.size + 1) (by repeat (first | (with_reducible exact Aside.refl _ _) | ((with_reducible refine aside_set ?_ ?_); (focus (simp; done))) | (with_reducible refine aside_alloc ?_))) Bw.size (fun i hi => by omega))))
  · have hfew := need_few ho
    obtain ⟨hf1, hf2, hf3⟩ := hfew
    have hop : d.op = 1 ∨ d.op = 2 ∨ d.op = 3 ∨ d.op = 4 := by omega
    obtain ⟨x, hx⟩ : ∃ x, x = d.op := ⟨_, rfl⟩
    obtain ⟨wd, hwd⟩ : ∃ wd, wd = opW d.op := ⟨_, rfl⟩
    have hwsz : wd.size ≤ 9223372036854775807 := by rw [hwd]; exact op_size _
    by_cases h0 : d.values.length = 0
    · have HT := Lib.hid (needT_two ho h0)
      have hl0 : ¬ (0 : Int) < d.values.length := by omega
      have Hho := Lib.hid ho
      clear h0
      rw [← hwd] at HT
      rw [← hx] at hop
      have Hx := Lib.hid hx
      have Hwd := Lib.hid hwd
      have i1 : (0 : Int) ≤ d.op := by omega
      have i2 : d.op < 5 := by omega
      clear hx hwd
      go_enter Tryz.func49, Tryz.ntmps49
      go_wp2_with fail
      refine (c_spec_NeedOk d [.string d.key, .int .i64 d.op, .slice A d.values.length c] _ lo (C_Need.now HCN.out bel)).mono ?_
      rintro e w1 ⟨rfl, hb⟩
      rw [ho]
      have S1 : w1.heap[w.heap.size]? = some (.cells #[.string d.key, .int .i64 d.op, .slice A d.values.length c] 84 (0, 0)) := (hb.block w.heap.size (by simp; omega)).trans ((Below.heap_alloc _ _ _ (by simp)).trans (heap_at (by simp)))
      have S2 : w1.heap[w.heap.size + 1]? = some (.cells #[.int .i64 0, .bool false, .int .i64 0, .string ⟨#[]⟩, .slice none 0 0, .slice none 0 0] 30 (0, 0)) := (hb.block (w.heap.size + 1) (by simp)).trans (heap_at (by simp))
      have Bw : Below w.heap.size w w1 := Below.trans bel (hb.mono (by simp; omega))
      have hz := hb.size
      simp at hz
      obtain ⟨x0, x1, x2, xf⟩ := row3 S1
      obtain ⟨y0, y1, y2, y3, y4, y5, yf⟩ := row6 S2
      have l1 := row_lt S1
      have l2 := row_lt S2
      clear hb
      have R1 := Lib.hid S1
      have R2 := Lib.hid S2
      clear S1 S2
      go_wp2_with fail
      obtain ⟨tb, htb⟩ : ∃ tb, tb = w1.heap.size := ⟨_, rfl⟩
      generalize hW : w1.alloc (.cells #[.int .i64 6, .bool false, .int .i64 0, .string ⟨#[]⟩, .slice none 0 0, .slice none 0 0] 30 (0, 0)) = W
      have S1 : W.heap[w.heap.size]? = some (.cells #[.string d.key, .int .i64 d.op, .slice A d.values.length c] 84 (0, 0)) := by rw [← hW]; exact (Below.heap_alloc _ _ _ l1).trans R1.out
      have S2 : W.heap[w.heap.size + 1]? = some (.cells #[.int .i64 0, .bool false, .int .i64 0, .string ⟨#[]⟩, .slice none 0 0, .slice none 0 0] 30 (0, 0)) := by rw [← hW]; exact (Below.heap_alloc _ _ _ l2).trans R2.out
      have S3 : W.heap[tb]? = some (.cells #[.int .i64 6, .bool false, .int .i64 0, .string ⟨#[]⟩, .slice none 0 0, .slice none 0 0] 30 (0, 0)) := by rw [← hW, htb]; exact heap_at rfl
      have Bw2 : Below w.heap.size w W := by rw [← hW]; exact Bw.alloc (by omega) _
      have HM := Lib.hid (mapRows_nil (base := tb + 1) (w := W))
      have hB : tb < tb + 1 := Nat.lt_succ_self _
      have htw : w.heap.size + 1 < tb := by omega
      clear R1 R2 Bw hW l1 l2 hz x0 x1 x2 xf y0 y1 y2 y3 y4 y5 yf
      rw [← htb]
      clear htb w1
      have Bw := Bw2
      clear Bw2
      obtain ⟨x0, x1, x2, xf⟩ := row3 S1
      obtain ⟨y0, y1, y2, y3, y4, y5, yf⟩ := row6 S2
      obtain ⟨z0, z1, z2, z3, z4, z5, zf⟩ := row6 S3
      have l1 := row_lt S1
      have l2 := row_lt S2
      have l3 := row_lt S3
      have R1 := Lib.hid S1
      have R2 := Lib.hid S2
      have R3 := Lib.hid S3
      clear S1 S2 S3
      refine comb (P := ?P1) (fun hP => ?_) ?_; rotate_left 1
      · go_region_law (first | (go_simp; go_at_call 68; refine (c_spec_TextTree _ _).mono ?_; rintro e wb ⟨rfl, hbb⟩; obtain ⟨qb0, qb1, qb2, qb3, qb4, qb5, qbf⟩ := row6 ((hbb.block tb (by simpa using l3)).trans R3.out)) | (go_simp; go_at_call 24; refine (c_l20Put [] [] _ _ _ _ _ _ _ _ _ none none 0 0 0 0 _ _ (tb + 1) _ (MapRows.carryB (w := W) HM.out (fun q hq => hbb.block q hq)) rfl (fun x hx => (by simp at hx)) (fun x hx => (by simp at hx)) (by decide)).mono ?_; rintro e wc ⟨vk1, vl1, rfl, hmc, hbc⟩; have hch : ∀ q, q < W.heap.size → wc.heap[q]? = W.heap[q]? := (fun q hq => (hbc.block q (Nat.lt_of_lt_of_le hq hbb.size)).trans ((fun q hq => hbb.block q hq) q hq)); obtain ⟨qc0, qc1, qc2, qc3, qc4, qc5, qcf⟩ := row6 ((hch tb l3).trans R3.out); have lc := row_lt ((hch tb l3).trans R3.out); obtain ⟨B4, d4, rfl⟩ := own_form hmc.keys; obtain ⟨B5, d5, rfl⟩ := own_form hmc.kids; (simp only [List.length_append, List.length_cons, List.length_nil, Nat.zero_add] at hmc ⊢)))
        all_goals
          have C3 := (hch tb l3).trans R3.out
          have Bc : Below w.heap.size w wc := bel
          generalize hW : ((((((wc.setCell ⟨tb, 0, none⟩ (.int .i64 6)).setCell ⟨tb, 1, none⟩ (.bool false)).setCell ⟨tb, 2, none⟩ (.int .i64 0)).setCell ⟨tb, 3, none⟩ (.string ⟨#[]⟩)).setCell ⟨tb, 4, none⟩ (.slice B4 1 d4)).setCell ⟨tb, 5, none⟩ (.slice B5 1 d5)) = W1
          have hF : Aside (fun b => b = tb) wc W1 := by rw [← hW]; exact (by repeat (first | (with_reducible exact Aside.refl _ _) | ((with_reducible refine aside_set ?_ ?_); (focus (simp; done))) | (with_reducible refine aside_alloc ?_)))
          have S1 := (hF.block w.heap.size (by omega) (by omega)).trans ((hch w.heap.size l1).trans R1.out)
          have S2 := (hF.block (w.heap.size + 1) (by omega) (by omega)).trans ((hch (w.heap.size + 1) l2).trans R2.out)
          have S3 : W1.heap[tb]? = some (.cells #[.int .i64 6, .bool false, .int .i64 0, .string ⟨#[]⟩, .slice B4 1 d4, .slice B5 1 d5] 30 (0, 0)) := by rw [← hW]; exact six_set _ _ _ _ _ _ C3
          have hts : tb + 1 ≤ wb.heap.size := by have e1 := hbb.size; have e3 := l3; simp at e1; omega
          have HM2 := Lib.hid ((hmc.less hts).aside hF (Nat.lt_succ_self _))
          have Bw2 := Bc.trans (hF.below Bc.size (fun i hi => by omega))
          clear hW hF hmc hch C3
          revert HM2 Bw2 S1 S2 S3
          revert W1
          revert B4 d4 B5 d5
          exact hP.out
      intro B4 d4 B5 d5 W1 S1 S2 S3 HM2 Bw2
      clear x0 x1 x2 xf zf yf l1 l2 l3 R1 R2 R3 HM Bw y0 y1 y2 y3 y4 y5 z0 z1 z2 z3 z4 z5
      clear W
      have HM := HM2
      have Bw := Bw2
      clear HM2 Bw2
      obtain ⟨x0, x1, x2, xf⟩ := row3 S1
      obtain ⟨y0, y1, y2, y3, y4, y5, yf⟩ := row6 S2
      obtain ⟨z0, z1, z2, z3, z4, z5, zf⟩ := row6 S3
      have l1 := row_lt S1
      have l2 := row_lt S2
      have l3 := row_lt S3
      have R1 := Lib.hid S1
      have R2 := Lib.hid S2
      have R3 := Lib.hid S3
      clear S1 S2 S3
      go_wp2_with fail
      refine comb (P := ?P2) (fun hP => ?_) ?_; rotate_left 1
      · go_region_law (first | (go_simp; go_at_call 94; refine (c_l15Ops _).mono ?_; rintro e wa ⟨rfl, hra, hba⟩; obtain ⟨pa0, pa1, pa2, paf⟩ := row3 ((hba.block w.heap.size (by simpa using l1)).trans R1.out); obtain ⟨qa0, qa1, qa2, qa3, qa4, qa5, qaf⟩ := row6 ((hba.block tb (by simpa using l3)).trans R3.out); have la := row_lt hra; have ra := op_cell hra Hx.out Hwd.out hop; simp at ra la) | (go_simp; go_at_call 68; refine (c_spec_TextTree _ _).mono ?_; rintro e wb ⟨rfl, hbb⟩; obtain ⟨qb0, qb1, qb2, qb3, qb4, qb5, qbf⟩ := row6 ((hbb.block tb (by have := hba.size; simp at this ⊢; omega)).trans ((hba.block tb (by simpa using l3)).trans R3.out))) | (go_simp; go_at_call 24; refine (c_l20Put [wKey] [leafC d.key] _ _ _ _ _ _ _ _ _ none none 0 0 0 0 _ _ (tb + 1) _ (MapRows.carryB (w := W1) HM.out (fun q hq => (hbb.block q (Nat.lt_of_lt_of_le hq hba.size)).trans (hba.block q hq))) rfl (fun x hx => (by simp at hx; subst hx; decide)) (fun x hx => (by simp at hx; subst hx; first | exact less_ko | exact less_kvs | exact less_ovs)) (by decide)).mono ?_; rintro e wc ⟨vk1, vl1, rfl, hmc, hbc⟩; have hch : ∀ q, q < W1.heap.size → wc.heap[q]? = W1.heap[q]? := (fun q hq => (hbc.block q (Nat.lt_of_lt_of_le hq (Nat.le_trans hba.size hbb.size))).trans ((fun q hq => (hbb.block q (Nat.lt_of_lt_of_le hq hba.size)).trans (hba.block q hq)) q hq)); obtain ⟨qc0, qc1, qc2, qc3, qc4, qc5, qcf⟩ := row6 ((hch tb l3).trans R3.out); have lc := row_lt ((hch tb l3).trans R3.out); obtain ⟨B4, d4, rfl⟩ := own_form hmc.keys; obtain ⟨B5, d5, rfl⟩ := own_form hmc.kids; (simp only [List.length_append, List.length_cons, List.length_nil, Nat.zero_add, Nat.reduceAdd] at hmc ⊢)))
        all_goals
          have C3 := (hch tb l3).trans R3.out
          have Bc : Below w.heap.size w wc := bel
          generalize hW : ((((((wc.setCell ⟨tb, 0, none⟩ (.int .i64 6)).setCell ⟨tb, 1, none⟩ (.bool false)).setCell ⟨tb, 2, none⟩ (.int .i64 0)).setCell ⟨tb, 3, none⟩ (.string ⟨#[]⟩)).setCell ⟨tb, 4, none⟩ (.slice B4 2 d4)).setCell ⟨tb, 5, none⟩ (.slice B5 2 d5)) = W2
          have hF : Aside (fun b => b = tb) wc W2 := by rw [← hW]; exact (by repeat (first | (with_reducible exact Aside.refl _ _) | ((with_reducible refine aside_set ?_ ?_); (focus (simp; done))) | (with_reducible refine aside_alloc ?_)))
          have S1 := (hF.block w.heap.size (by omega) (by omega)).trans ((hch w.heap.size l1).trans R1.out)
          have S2 := (hF.block (w.heap.size + 1) (by omega) (by omega)).trans ((hch (w.heap.size + 1) l2).trans R2.out)
          have S3 : W2.heap[tb]? = some (.cells #[.int .i64 6, .bool false, .int .i64 0, .string ⟨#[]⟩, .slice B4 2 d4, .slice B5 2 d5] 30 (0, 0)) := by rw [← hW]; exact six_set _ _ _ _ _ _ C3
          have hts : tb + 1 ≤ wb.heap.size := by have e1 := hbb.size; have e2 := hba.size; have e3 := l3; simp at e2; omega
          have HM2 := Lib.hid ((hmc.less hts).aside hF (Nat.lt_succ_self _))
          have Bw2 := Bc.trans (hF.below Bc.size (fun i hi => by omega))
          clear hW hF hmc hch C3
          revert HM2 Bw2 S1 S2 S3
          revert W2
          revert B4 d4 B5 d5
          exact hP.out
      intro B4 d4 B5 d5 W2 S1 S2 S3 HM2 Bw2
      clear x0 x1 x2 xf zf yf l1 l2 l3 R1 R2 R3 HM Bw y0 y1 y2 y3 y4 y5 z0 z1 z2 z3 z4 z5
      have HM := HM2
      have Bw := Bw2
      clear HM2 Bw2
      obtain ⟨x0, x1, x2, xf⟩ := row3 S1
      obtain ⟨y0, y1, y2, y3, y4, y5, yf⟩ := row6 S2
      obtain ⟨z0, z1, z2, z3, z4, z5, zf⟩ := row6 S3
      have l1 := row_lt S1
      have l2 := row_lt S2
      have l3 := row_lt S3
      have R1 := Lib.hid S1
      have R2 := Lib.hid S2
      have R3 := Lib.hid S3
      clear S1 S2 S3
      go_wp2_with fail
      exact bodyPost_ret (v := .agg #[.int .i64 6, .bool false, .int .i64 0, .string ⟨#[]⟩, .slice B4 2 d4, .slice B5 2 d5]) (by simp only [results, Tryz.results49]; go_simp) rfl (tree_finM (n := n + 1) HT.out rfl HM.out (t2 := w.heap.size + 1) (by repeat (first | (with_reducible exact Aside.refl _ _) | ((with_reducible refine aside_set ?_ ?_); (focus (simp; done))) | (with_reducible refine aside_alloc ?_))) (by omega) (by omega) (fun s hs => words_ok s (by simp [wordsN] at hs ⊢; rcases hs with h | h <;> simp [h])) (by intro s hs; simp at hs; rcases hs with rfl | rfl; exact a0; exact hwsz) Bw)
    · have HT := Lib.hid (needT_three ho h0)
      have hl0 : (0 : Int) < d.values.length := by omega
      have hl0n : 0 < d.values.length := by omega
      have Hho := Lib.hid ho
      clear h0
      rw [← hwd] at HT
      rw [← hx] at hop
      have Hx := Lib.hid hx
      have Hwd := Lib.hid hwd
      have i1 : (0 : Int) ≤ d.op := by omega
      have i2 : d.op < 5 := by omega
      clear hx hwd
      go_enter Tryz.func49, Tryz.ntmps49
      go_wp2_with fail
      refine (c_spec_NeedOk d [.string d.key, .int .i64 d.op, .slice A d.values.length c] _ lo (C_Need.now HCN.out bel)).mono ?_
      rintro e w1 ⟨rfl, hb⟩
      rw [ho]
      have S1 : w1.heap[w.heap.size]? = some (.cells #[.string d.key, .int .i64 d.op, .slice A d.values.length c] 84 (0, 0)) := (hb.block w.heap.size (by simp; omega)).trans ((Below.heap_alloc _ _ _ (by simp)).trans (heap_at (by simp)))
      have S2 : w1.heap[w.heap.size + 1]? = some (.cells #[.int .i64 0, .bool false, .int .i64 0, .string ⟨#[]⟩, .slice none 0 0, .slice none 0 0] 30 (0, 0)) := (hb.block (w.heap.size + 1) (by simp)).trans (heap_at (by simp))
      have Bw : Below w.heap.size w w1 := Below.trans bel (hb.mono (by simp; omega))
      have hz := hb.size
      simp at hz
      obtain ⟨x0, x1, x2, xf⟩ := row3 S1
      obtain ⟨y0, y1, y2, y3, y4, y5, yf⟩ := row6 S2
      have l1 := row_lt S1
      have l2 := row_lt S2
      clear hb
      have R1 := Lib.hid S1
      have R2 := Lib.hid S2
      clear S1 S2
      go_wp2_with fail
      obtain ⟨tb, htb⟩ : ∃ tb, tb = w1.heap.size := ⟨_, rfl⟩
      generalize hW : w1.alloc (.cells #[.int .i64 6, .bool false, .int .i64 0, .string ⟨#[]⟩, .slice none 0 0, .slice none 0 0] 30 (0, 0)) = W
      have S1 : W.heap[w.heap.size]? = some (.cells #[.string d.key, .int .i64 d.op, .slice A d.values.length c] 84 (0, 0)) := by rw [← hW]; exact (Below.heap_alloc _ _ _ l1).trans R1.out
      have S2 : W.heap[w.heap.size + 1]? = some (.cells #[.int .i64 0, .bool false, .int .i64 0, .string ⟨#[]⟩, .slice none 0 0, .slice none 0 0] 30 (0, 0)) := by rw [← hW]; exact (Below.heap_alloc _ _ _ l2).trans R2.out
      have S3 : W.heap[tb]? = some (.cells #[.int .i64 6, .bool false, .int .i64 0, .string ⟨#[]⟩, .slice none 0 0, .slice none 0 0] 30 (0, 0)) := by rw [← hW, htb]; exact heap_at rfl
      have Bw2 : Below w.heap.size w W := by rw [← hW]; exact Bw.alloc (by omega) _
      have HM := Lib.hid (mapRows_nil (base := tb + 1) (w := W))
      have hB : tb < tb + 1 := Nat.lt_succ_self _
      have htw : w.heap.size + 1 < tb := by omega
      clear R1 R2 Bw hW l1 l2 hz x0 x1 x2 xf y0 y1 y2 y3 y4 y5 yf
      rw [← htb]
      clear htb w1
      have Bw := Bw2
      clear Bw2
      obtain ⟨x0, x1, x2, xf⟩ := row3 S1
      obtain ⟨y0, y1, y2, y3, y4, y5, yf⟩ := row6 S2
      obtain ⟨z0, z1, z2, z3, z4, z5, zf⟩ := row6 S3
      have l1 := row_lt S1
      have l2 := row_lt S2
      have l3 := row_lt S3
      have R1 := Lib.hid S1
      have R2 := Lib.hid S2
      have R3 := Lib.hid S3
      clear S1 S2 S3
      refine comb (P := ?P3) (fun hP => ?_) ?_; rotate_left 1
      · go_region_law (first | (go_simp; go_at_call 68; refine (c_spec_TextTree _ _).mono ?_; rintro e wb ⟨rfl, hbb⟩; obtain ⟨qb0, qb1, qb2, qb3, qb4, qb5, qbf⟩ := row6 ((hbb.block tb (by simpa using l3)).trans R3.out)) | (go_simp; go_at_call 24; refine (c_l20Put [] [] _ _ _ _ _ _ _ _ _ none none 0 0 0 0 _ _ (tb + 1) _ (MapRows.carryB (w := W) HM.out (fun q hq => hbb.block q hq)) rfl (fun x hx => (by simp at hx)) (fun x hx => (by simp at hx)) (by decide)).mono ?_; rintro e wc ⟨vk1, vl1, rfl, hmc, hbc⟩; have hch : ∀ q, q < W.heap.size → wc.heap[q]? = W.heap[q]? := (fun q hq => (hbc.block q (Nat.lt_of_lt_of_le hq hbb.size)).trans ((fun q hq => hbb.block q hq) q hq)); obtain ⟨qc0, qc1, qc2, qc3, qc4, qc5, qcf⟩ := row6 ((hch tb l3).trans R3.out); have lc := row_lt ((hch tb l3).trans R3.out); obtain ⟨B4, d4, rfl⟩ := own_form hmc.keys; obtain ⟨B5, d5, rfl⟩ := own_form hmc.kids; (simp only [List.length_append, List.length_cons, List.length_nil, Nat.zero_add] at hmc ⊢)))
        all_goals
          have C3 := (hch tb l3).trans R3.out
          have Bc : Below w.heap.size w wc := bel
          generalize hW : ((((((wc.setCell ⟨tb, 0, none⟩ (.int .i64 6)).setCell ⟨tb, 1, none⟩ (.bool false)).setCell ⟨tb, 2, none⟩ (.int .i64 0)).setCell ⟨tb, 3, none⟩ (.string ⟨#[]⟩)).setCell ⟨tb, 4, none⟩ (.slice B4 1 d4)).setCell ⟨tb, 5, none⟩ (.slice B5 1 d5)) = W1
          have hF : Aside (fun b => b = tb) wc W1 := by rw [← hW]; exact (by repeat (first | (with_reducible exact Aside.refl _ _) | ((with_reducible refine aside_set ?_ ?_); (focus (simp; done))) | (with_reducible refine aside_alloc ?_)))
          have S1 := (hF.block w.heap.size (by omega) (by omega)).trans ((hch w.heap.size l1).trans R1.out)
          have S2 := (hF.block (w.heap.size + 1) (by omega) (by omega)).trans ((hch (w.heap.size + 1) l2).trans R2.out)
          have S3 : W1.heap[tb]? = some (.cells #[.int .i64 6, .bool false, .int .i64 0, .string ⟨#[]⟩, .slice B4 1 d4, .slice B5 1 d5] 30 (0, 0)) := by rw [← hW]; exact six_set _ _ _ _ _ _ C3
          have hts : tb + 1 ≤ wb.heap.size := by have e1 := hbb.size; have e3 := l3; simp at e1; omega
          have HM2 := Lib.hid ((hmc.less hts).aside hF (Nat.lt_succ_self _))
          have Bw2 := Bc.trans (hF.below Bc.size (fun i hi => by omega))
          clear hW hF hmc hch C3
          revert HM2 Bw2 S1 S2 S3
          revert W1
          revert B4 d4 B5 d5
          exact hP.out
      intro B4 d4 B5 d5 W1 S1 S2 S3 HM2 Bw2
      clear x0 x1 x2 xf zf yf l1 l2 l3 R1 R2 R3 HM Bw y0 y1 y2 y3 y4 y5 z0 z1 z2 z3 z4 z5
      clear W
      have HM := HM2
      have Bw := Bw2
      clear HM2 Bw2
      obtain ⟨x0, x1, x2, xf⟩ := row3 S1
      obtain ⟨y0, y1, y2, y3, y4, y5, yf⟩ := row6 S2
      obtain ⟨z0, z1, z2, z3, z4, z5, zf⟩ := row6 S3
      have l1 := row_lt S1
      have l2 := row_lt S2
      have l3 := row_lt S3
      have R1 := Lib.hid S1
      have R2 := Lib.hid S2
      have R3 := Lib.hid S3
      clear S1 S2 S3
      go_wp2_with fail
      refine comb (P := ?P4) (fun hP => ?_) ?_; rotate_left 1
      · go_region_law (first | (go_simp; go_at_call 94; refine (c_l15Ops _).mono ?_; rintro e wa ⟨rfl, hra, hba⟩; obtain ⟨pa0, pa1, pa2, paf⟩ := row3 ((hba.block w.heap.size (by simpa using l1)).trans R1.out); obtain ⟨qa0, qa1, qa2, qa3, qa4, qa5, qaf⟩ := row6 ((hba.block tb (by simpa using l3)).trans R3.out); have la := row_lt hra; have ra := op_cell hra Hx.out Hwd.out hop; simp at ra la) | (go_simp; go_at_call 68; refine (c_spec_TextTree _ _).mono ?_; rintro e wb ⟨rfl, hbb⟩; obtain ⟨qb0, qb1, qb2, qb3, qb4, qb5, qbf⟩ := row6 ((hbb.block tb (by have := hba.size; simp at this ⊢; omega)).trans ((hba.block tb (by simpa using l3)).trans R3.out))) | (go_simp; go_at_call 24; refine (c_l20Put [wKey] [leafC d.key] _ _ _ _ _ _ _ _ _ none none 0 0 0 0 _ _ (tb + 1) _ (MapRows.carryB (w := W1) HM.out (fun q hq => (hbb.block q (Nat.lt_of_lt_of_le hq hba.size)).trans (hba.block q hq))) rfl (fun x hx => (by simp at hx; subst hx; decide)) (fun x hx => (by simp at hx; subst hx; first | exact less_ko | exact less_kvs | exact less_ovs)) (by decide)).mono ?_; rintro e wc ⟨vk1, vl1, rfl, hmc, hbc⟩; have hch : ∀ q, q < W1.heap.size → wc.heap[q]? = W1.heap[q]? := (fun q hq => (hbc.block q (Nat.lt_of_lt_of_le hq (Nat.le_trans hba.size hbb.size))).trans ((fun q hq => (hbb.block q (Nat.lt_of_lt_of_le hq hba.size)).trans (hba.block q hq)) q hq)); obtain ⟨qc0, qc1, qc2, qc3, qc4, qc5, qcf⟩ := row6 ((hch tb l3).trans R3.out); have lc := row_lt ((hch tb l3).trans R3.out); obtain ⟨B4, d4, rfl⟩ := own_form hmc.keys; obtain ⟨B5, d5, rfl⟩ := own_form hmc.kids; (simp only [List.length_append, List.length_cons, List.length_nil, Nat.zero_add, Nat.reduceAdd] at hmc ⊢)))
        all_goals
          have C3 := (hch tb l3).trans R3.out
          have Bc : Below w.heap.size w wc := bel
          generalize hW : ((((((wc.setCell ⟨tb, 0, none⟩ (.int .i64 6)).setCell ⟨tb, 1, none⟩ (.bool false)).setCell ⟨tb, 2, none⟩ (.int .i64 0)).setCell ⟨tb, 3, none⟩ (.string ⟨#[]⟩)).setCell ⟨tb, 4, none⟩ (.slice B4 2 d4)).setCell ⟨tb, 5, none⟩ (.slice B5 2 d5)) = W2
          have hF : Aside (fun b => b = tb) wc W2 := by rw [← hW]; exact (by repeat (first | (with_reducible exact Aside.refl _ _) | ((with_reducible refine aside_set ?_ ?_); (focus (simp; done))) | (with_reducible refine aside_alloc ?_)))
          have S1 := (hF.block w.heap.size (by omega) (by omega)).trans ((hch w.heap.size l1).trans R1.out)
          have S2 := (hF.block (w.heap.size + 1) (by omega) (by omega)).trans ((hch (w.heap.size + 1) l2).trans R2.out)
          have S3 : W2.heap[tb]? = some (.cells #[.int .i64 6, .bool false, .int .i64 0, .string ⟨#[]⟩, .slice B4 2 d4, .slice B5 2 d5] 30 (0, 0)) := by rw [← hW]; exact six_set _ _ _ _ _ _ C3
          have hts : tb + 1 ≤ wb.heap.size := by have e1 := hbb.size; have e2 := hba.size; have e3 := l3; simp at e2; omega
          have HM2 := Lib.hid ((hmc.less hts).aside hF (Nat.lt_succ_self _))
          have Bw2 := Bc.trans (hF.below Bc.size (fun i hi => by omega))
          clear hW hF hmc hch C3
          revert HM2 Bw2 S1 S2 S3
          revert W2
          revert B4 d4 B5 d5
          exact hP.out
      intro B4 d4 B5 d5 W2 S1 S2 S3 HM2 Bw2
      clear x0 x1 x2 xf zf yf l1 l2 l3 R1 R2 R3 HM Bw y0 y1 y2 y3 y4 y5 z0 z1 z2 z3 z4 z5
      have HM := HM2
      have Bw := Bw2
      clear HM2 Bw2
      obtain ⟨x0, x1, x2, xf⟩ := row3 S1
      obtain ⟨y0, y1, y2, y3, y4, y5, yf⟩ := row6 S2
      obtain ⟨z0, z1, z2, z3, z4, z5, zf⟩ := row6 S3
      have l1 := row_lt S1
      have l2 := row_lt S2
      have l3 := row_lt S3
      have R1 := Lib.hid S1
      have R2 := Lib.hid S2
      have R3 := Lib.hid S3
      clear S1 S2 S3
      obtain ⟨i0, hi, hz0, hz1, hz2⟩ := info_parts (show (Tryz.prog.info? 30).map (fun i => (i.zero, i.size, i.bytes)) = some (some (.agg #[.int .i64 0, .bool false, .int .i64 0, .string ⟨#[]⟩, .slice none 0 0, .slice none 0 0]), 6, 88) from by kernel_rfl)
      go_wp2_with fail
      go_loopw [4, 5] (fun q i wr => ∃ (k : Nat) (K : Option Addr) (c5 : Nat), k ≤ d.values.length ∧ i = .int .i64 k ∧ q = .slice K k c5 ∧ wr.ownsRow W2.heap.size 30 6 (.slice K k c5) k ((d.values.take k).map leafC).flatten ∧ Below W2.heap.size W2 wr) (fun _ i _ => d.values.length - (intOf i).toNat)
      case atStart => exact ⟨0, some ⟨W2.heap.size, 0, none⟩, 0, Nat.zero_le _, rfl, rfl, own_empty (by simp) (by simp), bel⟩
      case round =>
        obtain ⟨k, K, c5, hk, rfl, rfl, hown, hbr⟩ := hrel
        have S1 := (hbr.block w.heap.size l1).trans R1.out
        have S2 := (hbr.block (w.heap.size + 1) l2).trans R2.out
        have S3 := (hbr.block tb l3).trans R3.out
        have HMW := Lib.hid (HM.out.carry hbr)
        have Bwr := Bw.trans (hbr.mono Bw.size)
        have e3 := l3
        clear x0 x1 x2 xf zf yf l1 l2 l3 R1 R2 R3 HM y0 y1 y2 y3 y4 y5 z0 z1 z2 z3 z4 z5
        obtain ⟨x0, x1, x2, xf⟩ := row3 S1
        obtain ⟨y0, y1, y2, y3, y4, y5, yf⟩ := row6 S2
        obtain ⟨z0, z1, z2, z3, z4, z5, zf⟩ := row6 S3
        have l1 := row_lt S1
        have l2 := row_lt S2
        have l3 := row_lt S3
        have R1 := Lib.hid S1
        have R2 := Lib.hid S2
        have R3 := Lib.hid S3
        clear S1 S2 S3
        have HO := Lib.hid hown
        by_cases hlt : k < d.values.length
        · obtain ⟨A', c', hv, hlc, hcc, hA⟩ := HA.out
          simp only [Value.slice.injEq, true_and] at hv
          obtain ⟨rfl, rfl⟩ := hv
          obtain ⟨b, o, rfl, -, hb2, hcell⟩ := hA (by omega)
          obtain ⟨t, ht⟩ := exists_at hlt
          obtain ⟨es, -, hcs, rfl, hd2⟩ := hcell k t ht
          have hc0 := (Bwr.cell (p := ⟨b, o + k * 1 + 0, none⟩) (by simp; omega)).trans (hcs 0 (by omega))
          simp at hc0
          have hbl : b < wr.heap.size := Nat.lt_of_lt_of_le hb2 Bwr.size
          have hk0 : (0 : Int) ≤ k := by omega
          have hk1 : (k : Int) < d.values.length := by omega
          have Ht := Lib.hid ht
          have hw2 := hbr.size
          clear hcs hcell hA ht hown
          go_wp2_with fail
          refine (c_spec_TextTree _ _).mono ?_
          rintro e w9 ⟨rfl, hb9⟩
          rw [show leafC t = [.int .i64 4, .bool false, .int .i64 0, .string t, .slice none 0 0, .slice none 0 0] from rfl]
          have hs9 := hb9.size
          go_wp2_with (at_builtin; refine wpList_append_lies _ rfl (.tmp 36) (.tmp 43) 28 rfl W2.heap.size 30 i0 (.agg #[.int .i64 0, .bool false, .int .i64 0, .string ⟨#[]⟩, .slice none 0 0, .slice none 0 0]) 6 88 Tryz.underlying28 hi hz0 hz1 hz2 rfl (by decide) _ k ((d.values.take k).map leafC).flatten rfl ((ownsRow_carry HO.out (fun q hq => hb9.block q (HO.out.lt q hq).2)).alloc _) _ 1 1 (leafC t) rfl rfl (World.news_of_block (heap_at (by simp))) (leaf_one t) (by decide) (by unfold maxLen; omega) (by omega) (by simp; omega) _ rfl ?_)
          intro g cap wn hownn hgrow hat hlt1
          have hB9 : Below W2.heap.size W2 w9 := hbr.trans (hb9.mono hbr.size)
          have hBn := Below.grown (hB9.alloc hB9.size (.cells #[.int .i64 4, .bool false, .int .i64 0, .string t, .slice none 0 0, .slice none 0 0] 30)) hgrow (by simp; omega) (fun q hq => (HO.out.lt q hq).1)
          have HN := Lib.hid (show wn.ownsRow W2.heap.size 30 6 (.slice (some ⟨g, 0, none⟩) (k + 1) cap) (k + 1) ((d.values.take (k + 1)).map leafC).flatten by rw [take_leaf2 Ht.out, List.map_take]; exact hownn)
          clear hownn hgrow hat
          go_wp2_with fail
          go_roundw
          case rel => exact ⟨k + 1, some ⟨g, 0, none⟩, cap, by omega, by go_num, rfl, HN.out, hBn⟩
          case measure => simp [intOf]; omega
        · obtain rfl : k = d.values.length := by omega
          have ho2 := hown
          rw [List.take_length] at ho2
          have Ho2 := Lib.hid ho2
          have hw2 := hbr.size
          have CT := Lib.hid (OwnT.toC (own_list (n := n) (w := wr) (by rw [List.length_map]; exact Ho2.out) HTS.out) (lo := W2.heap.size) (hi := wr.heap.size) (fun b hb => Ho2.out.lt b hb))
          have Hnt := Lib.hid (show nTree (n + 2) (listT d.values) ≤ 1048576 by rw [nTree_list]; exact hsz)
          clear hown ho2 HO
          go_wp2_with fail
          refine comb (P := ?P5) (fun hP => ?_) ?_; rotate_left 1
          · go_region_law (first | (go_simp; go_at_call 27; refine (c_ListTree n d.values _ _ _ _ (C_Tree.now CT.out bel) Hnt.out).mono ?_; rintro e wb ⟨cs8, rfl, hO8, hbb⟩; obtain ⟨A8, c8, A9, c9, hcs, -⟩ := hO8.flat; have hcs2 : cs8 = [.int .i64 5, .bool false, .int .i64 0, .string ⟨#[]⟩, .slice A8 0 c8, .slice A9 d.values.length c9] := (by rw [hcs]; simp [listT]); clear hcs; subst hcs2; obtain ⟨qb0, qb1, qb2, qb3, qb4, qb5, qbf⟩ := row6 ((hbb.block tb (by simpa using l3)).trans R3.out)) | (go_simp; go_at_call 24; refine (c_l20Put [wKey, wOp] [leafC d.key, leafC wd] _ _ _ _ _ _ _ _ _ A8 A9 0 c8 d.values.length c9 _ _ (tb + 1) _ (MapRows.carryB (w := wr) HMW.out (fun q hq => hbb.block q hq)) rfl (fun x hx => (by simp at hx; rcases hx with rfl | rfl <;> decide)) (fun x hx => (by simp at hx; rcases hx with rfl | rfl <;> first | exact less_kvs | exact less_ovs)) (by decide)).mono ?_; rintro e wc ⟨vk1, vl1, rfl, hmc, hbc⟩; have hch : ∀ q, q < wr.heap.size → wc.heap[q]? = wr.heap[q]? := (fun q hq => (hbc.block q (Nat.lt_of_lt_of_le hq hbb.size)).trans ((fun q hq => hbb.block q hq) q hq)); obtain ⟨qc0, qc1, qc2, qc3, qc4, qc5, qcf⟩ := row6 ((hch tb l3).trans R3.out); have lc := row_lt ((hch tb l3).trans R3.out); obtain ⟨B6, d6, rfl⟩ := own_form hmc.keys; obtain ⟨B7, d7, rfl⟩ := own_form hmc.kids; (simp only [List.length_append, List.length_cons, List.length_nil, Nat.zero_add, Nat.reduceAdd] at hmc ⊢)))
            all_goals
              have C3 := (hch tb l3).trans R3.out
              have Bc : Below w.heap.size w wc := bel
              have e1 := hbb.size
              have e4 := hbc.size
              simp at e1
              generalize hW : ((((((wc.setCell ⟨tb, 0, none⟩ (.int .i64 6)).setCell ⟨tb, 1, none⟩ (.bool false)).setCell ⟨tb, 2, none⟩ (.int .i64 0)).setCell ⟨tb, 3, none⟩ (.string ⟨#[]⟩)).setCell ⟨tb, 4, none⟩ (.slice B6 3 d6)).setCell ⟨tb, 5, none⟩ (.slice B7 3 d7)) = W3
              have hF : Aside (fun b => b = tb) wc W3 := by rw [← hW]; exact (by repeat (first | (with_reducible exact Aside.refl _ _) | ((with_reducible refine aside_set ?_ ?_); (focus (simp; done))) | (with_reducible refine aside_alloc ?_)))
              have S2 := (hF.block (w.heap.size + 1) (by omega) (by omega)).trans ((hch (w.heap.size + 1) l2).trans R2.out)
              have S3 : W3.heap[tb]? = some (.cells #[.int .i64 6, .bool false, .int .i64 0, .string ⟨#[]⟩, .slice B6 3 d6, .slice B7 3 d7] 30 (0, 0)) := by rw [← hW]; exact six_set _ _ _ _ _ _ C3
              have HM2 := Lib.hid (hmc.aside hF (show tb < wb.heap.size by omega))
              have HO9 := Lib.hid (hO8.carry (S' := fun b => wr.heap.size < b ∧ b < wb.heap.size) (w' := W3) (fun b hb => (hF.block b (by have := hb.2; omega) (by have h5 := hb.1; simp at h5; omega)).trans (hbc.block b hb.2)) (fun b hb => (by simpa using hb)))
              have Bw2 := Bc.trans (hF.below Bc.size (fun i hi => by omega))
              have hq3 : wb.heap.size ≤ W3.heap.size := Nat.le_trans e4 hF.size
              have hq4 : wr.heap.size ≤ wb.heap.size := e1
              clear hW hF hmc hch C3 hO8 Bc e4 e1 lc
              obtain ⟨bq, hbq⟩ : ∃ bq, bq = wb.heap.size := ⟨_, rfl⟩
              rw [← hbq] at HM2 HO9 hq3 hq4
              clear hbq
              revert HM2 HO9 Bw2 S2 S3 hq3 hq4
              revert W3
              revert bq
              revert B6 d6 B7 d7
              revert A8 c8 A9 c9
              exact hP.out
          intro A8 c8 A9 c9 B6 d6 B7 d7 bq W3 S2 S3 Bw2 hq4 hq3 HO9 HM2
          clear x0 x1 x2 xf zf yf l1 l2 l3 R1 R2 R3 HMW Bw y0 y1 y2 y3 y4 y5 z0 z1 z2 z3 z4 z5
          obtain ⟨y0, y1, y2, y3, y4, y5, yf⟩ := row6 S2
          obtain ⟨z0, z1, z2, z3, z4, z5, zf⟩ := row6 S3
          have l2 := row_lt S2
          have l3 := row_lt S3
          clear S2 S3
          go_wp2_with fail
          exact bodyPost_ret (v := .agg #[.int .i64 6, .bool false, .int .i64 0, .string ⟨#[]⟩, .slice B6 3 d6, .slice B7 3 d7]) (by simp only [results, Tryz.results49]; go_simp) rfl (tree_finN HT.out (base := bq) HM2.out.keys HM2.out.kids HO9.out (fun b hb => ⟨by have := hb.1; omega, Nat.lt_of_lt_of_le hb.2 hq3, fun h => absurd (HM2.out.keys.lt b h).1 (by have := hb.2; omega), fun h => absurd (HM2.out.kids.lt b h).1 (by have := hb.2; omega)⟩) (t2 := w.heap.size + 1) (by repeat (first | (with_reducible exact Aside.refl _ _) | ((with_reducible refine aside_set ?_ ?_); (focus (simp; done))) | (with_reducible refine aside_alloc ?_))) (by omega) (by omega) a0 hwsz Bw2)
end Go.Proofs.YteecgklmdfockaaGreatDoor
