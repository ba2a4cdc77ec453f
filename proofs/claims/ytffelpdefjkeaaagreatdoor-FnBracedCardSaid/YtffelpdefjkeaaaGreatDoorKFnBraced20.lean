/- Written by wip/tools/pack.py: the texts that FnBraced needs, without what it does not need. No conditions. -/
import Derived.Test.YtffelpdefjkeaaaGreatDoorKFnBraced8
import Derived.Test.YtffelpdefjkeaaaGreatDoorKFnBraced6
import Derived.Deep.CutRange
import Derived.Deep.RegionHeld3
import Derived.Test.YtffelpdefjkeaaaGreatDoorKFnBraced19
import Derived.Test.YtffelpdefjkeaaaGreatDoorKFnBraced17
import Derived.Test.YtffelpdefjkeaaaGreatDoorKFnBraced11
import Derived.Test.YtffelpdefjkeaaaGreatDoorKFnBraced7
import Derived.Test.YtffelpdefjkeaaaGreatDoorKFnBraced5
import Derived.Deep.CutBlock
import Derived.Test.YtffelpdefjkeaaaGreatDoorKFnBraced1
import Derived.Test.YtffelpdefjkeaaaGreatDoorKFnBraced15
import Derived.Test.YtffelpdefjkeaaaGreatDoorKFnBraced9
namespace Go.Proofs.YtffelpdefjkeaaaGreatDoor
open Go.RowKit
/-- The same tree, down to depth n. -/
def eqTr : Nat → TreeD → TreeD → Bool
  | 0, _, _ => false
  | n + 1, a, b => (a.kind == b.kind) && (a.flag == b.flag) && (a.num == b.num) && (a.text.toList == b.text.toList) && eqL eqStr a.keys b.keys && eqL (eqTr n) a.kids b.kids
theorem eqTr_succ (n : Nat) (a b : TreeD) : eqTr (n + 1) a b = ((a.kind == b.kind) && (a.flag == b.flag) && (a.num == b.num) && (a.text.toList == b.text.toList) && eqL eqStr a.keys b.keys && eqL (eqTr n) a.kids b.kids) := rfl
def T_sameS (n : Nat) : Prop := ∀ (a b : TreeD) (ca cb : List Value) (w : World) (lo lo' : Nat), C_Tree n lo w.heap.size w a ca → C_Tree n lo' w.heap.size w b cb →
    Calls Tryz.prog 25 #[.agg ca.toArray, .agg cb.toArray] w fun e w' => e = .returned (.bool (eqTr n a b)) ∧ Below w.heap.size w w'
theorem ne_of {α : Type} [BEq α] {x y : α} {q : Bool} (h : (x == y) = q) : (x != y) = !q := by unfold bne; rw [h]
set_option maxHeartbeats 8000000 in
set_option maxRecDepth 10000 in
theorem of_sameS (n : Nat) (ih : T_sameS n) : T_sameS (n + 1) := by
  intro a b ca cb w lo lo' h h'
  obtain ⟨v4, v5, rfl, a0, a2, a3, a4, a5⟩ := C_Tree.out h
  obtain ⟨zv4, zv5, rfl, za0, za2, za3, za4, za5⟩ := C_Tree.out h'
  obtain ⟨A4, c4, rfl, hlc, hcc, hA⟩ := a4
  obtain ⟨A5, c5, rfl, hlc5, hcc5, hA5⟩ := a5
  obtain ⟨zA4, zc4, rfl, zlc, zcc, hB⟩ := za4
  obtain ⟨zA5, zc5, rfl, zlc5, zcc5, hB5⟩ := za5
  have Hf := Lib.hid (eqTr_succ n a b)
  clear h h'
  rcases q1 : (a.kind == b.kind) with _ | _
  · rw [q1] at Hf; simp only [Bool.false_and] at Hf
    have n1 := ne_of q1
    simp only [Bool.not_false] at n1
    go_enter Tryz.func25, Tryz.ntmps25
    go_wp2_with fail
    go_ret
    exact ⟨ret_bool Hf.out.symm, bel⟩
  have n1 := ne_of q1
  simp only [Bool.not_true] at n1
  rcases q2 : (a.flag == b.flag) with _ | _
  · rw [q1, q2] at Hf; simp only [Bool.false_and, Bool.and_false] at Hf
    have n2 := ne_of q2
    simp only [Bool.not_false] at n2
    go_enter Tryz.func25, Tryz.ntmps25
    go_wp2_with fail
    go_ret
    exact ⟨ret_bool Hf.out.symm, bel⟩
  have n2 := ne_of q2
  simp only [Bool.not_true] at n2
  rcases q3 : (a.num == b.num) with _ | _
  · rw [q1, q2, q3] at Hf; simp only [Bool.false_and, Bool.and_false] at Hf
    have n3 := ne_of q3
    simp only [Bool.not_false] at n3
    go_enter Tryz.func25, Tryz.ntmps25
    go_wp2_with fail
    go_ret
    exact ⟨ret_bool Hf.out.symm, bel⟩
  have n3 := ne_of q3
  simp only [Bool.not_true] at n3
  rcases q4 : (a.text.toList == b.text.toList) with _ | _
  · rw [q1, q2, q3, q4] at Hf; simp only [Bool.false_and, Bool.and_false] at Hf
    have n4 := ne_of q4
    simp only [Bool.not_false] at n4
    go_enter Tryz.func25, Tryz.ntmps25
    go_wp2_with fail
    go_ret
    exact ⟨ret_bool Hf.out.symm, bel⟩
  have n4 := ne_of q4
  simp only [Bool.not_true] at n4
  by_cases hk : a.keys.length = b.keys.length
  rotate_left
  · have Hx := Lib.hid (eqL_len eqStr a.keys b.keys hk)
    have lk : ((a.keys.length : Int) != b.keys.length) = true := bne_iff_ne.2 (by omega)
    have He := Lib.hid (show eqTr (n + 1) a b = false by rw [eqTr_succ, Hx.out]; simp only [Bool.and_false, Bool.false_and])
    clear Hf hk
    go_enter Tryz.func25, Tryz.ntmps25
    go_wp2_with fail
    go_ret
    exact ⟨ret_bool He.out.symm, bel⟩
  have lk : ((a.keys.length : Int) != b.keys.length) = false := bne_eq_false_iff_eq.2 (by omega)
  have Lk := Lib.hid hk
  clear hk
  by_cases hd : a.kids.length = b.kids.length
  rotate_left
  · have Hx := Lib.hid (eqL_len (eqTr n) a.kids b.kids hd)
    have ld : ((a.kids.length : Int) != b.kids.length) = true := bne_iff_ne.2 (by omega)
    have He := Lib.hid (show eqTr (n + 1) a b = false by rw [eqTr_succ, Hx.out]; simp only [Bool.and_false])
    clear Hf hd
    go_enter Tryz.func25, Tryz.ntmps25
    go_wp2_with fail
    go_ret
    exact ⟨ret_bool He.out.symm, bel⟩
  have ld : ((a.kids.length : Int) != b.kids.length) = false := bne_eq_false_iff_eq.2 (by omega)
  have Ld := Lib.hid hd
  clear hd
  rw [q1, q2, q3, q4] at Hf
  simp only [Bool.true_and] at Hf
  go_enter Tryz.func25, Tryz.ntmps25
  go_wp2_with fail
  go_loopw [5] (fun v wr => ∃ k : Nat, k ≤ a.keys.length ∧ v = .int .i64 k ∧ allR k (eqAt eqStr a.keys b.keys) = true ∧ wr.heap[w.heap.size]? = some (.cells #[.int .i64 a.kind, .bool a.flag, .int .i64 a.num, .string a.text, .slice A4 a.keys.length c4, .slice A5 a.kids.length c5] 27 (0, 0)) ∧ wr.heap[w.heap.size + 1]? = some (.cells #[.int .i64 b.kind, .bool b.flag, .int .i64 b.num, .string b.text, .slice zA4 b.keys.length zc4, .slice zA5 b.kids.length zc5] 27 (0, 0)) ∧ Below w.heap.size w wr) (fun v _ => a.keys.length - (intOf v).toNat)
  case atStart => exact ⟨0, Nat.zero_le _, rfl, rfl, (Below.heap_alloc _ _ _ (by simp)).trans (heap_at rfl), heap_at (by simp), bel⟩
  case round =>
    obtain ⟨k, hk, rfl, hall, hT, hK, hbr⟩ := hrel
    have Hall := Lib.hid hall
    have HT := Lib.hid hT
    have HK := Lib.hid hK
    clear hall hT hK
    obtain ⟨x0, x1, x2, x3, x4, x5, xf⟩ := row6 HT.out
    obtain ⟨y0, y1, y2, y3, y4, y5, yf⟩ := row6 HK.out
    have hl1 := row_lt HT.out
    have hl2 := row_lt HK.out
    by_cases hlt : k < a.keys.length
    · obtain ⟨p, o, rfl, -, hbl, hcell⟩ := hA (by omega)
      obtain ⟨p', o', rfl, -, hbl', hcell'⟩ := hB (by have := Lk.out; omega)
      obtain ⟨d, hd⟩ := exists_at hlt
      obtain ⟨d', hd'⟩ := exists_at (show k < b.keys.length by have := Lk.out; omega)
      obtain ⟨es, -, hcs, rfl, hz1⟩ := hcell k d hd
      obtain ⟨es', -, hcs', rfl, hz2⟩ := hcell' k d' hd'
      have hc0 := (hbr.cell (p := ⟨p, o + k * 1 + 0, none⟩) hbl).trans (hcs 0 (by omega))
      have hd0 := (hbr.cell (p := ⟨p', o' + k * 1 + 0, none⟩) hbl').trans (hcs' 0 (by omega))
      simp at hc0 hd0
      have hbr1 := Nat.lt_of_lt_of_le hbl hbr.size
      have hbr2 := Nat.lt_of_lt_of_le hbl' hbr.size
      have hbs := hbr.size
      have hk0 : (0 : Int) ≤ k := by omega
      have hk1 : (k : Int) < a.keys.length := by omega
      have hk2 : (k : Int) < b.keys.length := by have := Lk.out; omega
      have He := Lib.hid (eqAt_eq eqStr a.keys b.keys k d d' hd hd')
      clear hcs hcell hA hcs' hcell' hB hd hd' hA5 hB5
      rcases q0 : (d.toList == d'.toList) with _ | _
      · have Hbad := Lib.hid (show eqAt eqStr a.keys b.keys k = false by rw [He.out]; exact q0)
        have m1 := ne_of q0
        simp only [Bool.not_false] at m1
        go_wp2_with fail
        refine wp_region_det 11 (by kernel_rfl) (by kernel_rfl) (by decide) ?_
        apply Exists.intro
        refine And.intro ?_ ?_
        · (intro W hW; (try simp only [Act.put, List.setIfInBounds_toArray, List.set_cons_zero, List.set_cons_succ]); first | (go_wp2_with fail; exact ⟨rfl, rfl, Below.refl _ _⟩))
        apply Exists.intro
        refine And.intro ?_ ?_
        · (intro W hW; (try simp only [Act.put, List.setIfInBounds_toArray, List.set_cons_zero, List.set_cons_succ]); first | (obtain ⟨hcW, hfW⟩ := bcell hW; have hsW := hW.size; (try simp at hsW); (try have hsW0 := lt_of_succ_le hsW); (try (have hsW1 := lt_pred hsW; (try (have hsW2 := lt_pred hsW1)))); go_wp2_with fail; exact ⟨rfl, rfl, Below.refl _ _⟩))
        apply Exists.intro
        refine And.intro ?_ ?_
        · (intro W hW; (try simp only [Act.put, List.setIfInBounds_toArray, List.set_cons_zero, List.set_cons_succ]); first | (go_wp2_with fail; exact ⟨rfl, rfl, Below.refl _ _⟩))
        apply Exists.intro
        refine And.intro ?_ ?_
        · (intro W hW; (try simp only [Act.put, List.setIfInBounds_toArray, List.set_cons_zero, List.set_cons_succ]); first | (go_wp2_with fail; exact ⟨rfl, rfl, Below.refl _ _⟩))
        apply Exists.intro
        refine And.intro ?_ ?_
        · (intro W hW; (try simp only [Act.put, List.setIfInBounds_toArray, List.set_cons_zero, List.set_cons_succ]); first | (obtain ⟨hcW, hfW⟩ := bcell hW; have hsW := hW.size; (try simp at hsW); (try have hsW0 := lt_of_succ_le hsW); (try (have hsW1 := lt_pred hsW; (try (have hsW2 := lt_pred hsW1)))); go_wp2_with fail; exact ⟨rfl, rfl, Below.refl _ _⟩))
        apply Exists.intro
        refine And.intro ?_ ?_
        · (intro W hW; (try simp only [Act.put, List.setIfInBounds_toArray, List.set_cons_zero, List.set_cons_succ]); first | (go_wp2_with fail; exact ⟨rfl, rfl, Below.refl _ _⟩))
        apply Exists.intro
        refine And.intro ?_ ?_
        · (intro W hW; (try simp only [Act.put, List.setIfInBounds_toArray, List.set_cons_zero, List.set_cons_succ]); first | (obtain ⟨hcW, hfW⟩ := bcell hW; have hsW := hW.size; (try simp at hsW); (try have hsW0 := lt_of_succ_le hsW); (try (have hsW1 := lt_pred hsW; (try (have hsW2 := lt_pred hsW1)))); go_wp2_with fail; exact ⟨rfl, rfl, Below.refl _ _⟩))
        apply Exists.intro
        refine And.intro ?_ ?_
        · (intro W hW; (try simp only [Act.put, List.setIfInBounds_toArray, List.set_cons_zero, List.set_cons_succ]); first | (go_wp2_with fail; exact ⟨rfl, rfl, Below.refl _ _⟩))
        apply Exists.intro
        refine And.intro ?_ ?_
        · (intro W hW; (try simp only [Act.put, List.setIfInBounds_toArray, List.set_cons_zero, List.set_cons_succ]); first | (go_wp2_with fail; exact ⟨rfl, rfl, Below.refl _ _⟩))
        apply Exists.intro
        refine And.intro ?_ ?_
        · (intro W hW; (try simp only [Act.put, List.setIfInBounds_toArray, List.set_cons_zero, List.set_cons_succ]); first | (obtain ⟨hcW, hfW⟩ := bcell hW; have hsW := hW.size; (try simp at hsW); (try have hsW0 := lt_of_succ_le hsW); (try (have hsW1 := lt_pred hsW; (try (have hsW2 := lt_pred hsW1)))); go_wp2_with fail; exact ⟨rfl, rfl, Below.refl _ _⟩))
        apply Exists.intro
        refine And.intro ?_ ?_
        · (intro W hW; (try simp only [Act.put, List.setIfInBounds_toArray, List.set_cons_zero, List.set_cons_succ]); first | (go_wp2_with fail; exact ⟨rfl, rfl, Below.refl _ _⟩))
        intro w1 hb
        (first | (have hcu2 := Cum.join hcu hb; (try clear hcu); (try clear hc); (try clear hfz); (try clear hsz); (try clear hs0); (try clear hs1); (try clear hs2); (try clear hs3); (try clear hs4); ) | have hcu2 := Cum.mk hb); have hcu := hcu2; clear hcu2; obtain ⟨hc, hfz⟩ := bcell hcu.h; have hsz := hcu.h.size; (try simp at hsz); (try have hs0 := lt_of_succ_le hsz); (try (have hs1 := lt_pred hsz; (try (have hs2 := lt_pred hs1; (try (have hs3 := lt_pred hs2; (try have hs4 := lt_pred hs3)))))))
        (try simp only [Act.put, List.setIfInBounds_toArray, List.set_cons_zero, List.set_cons_succ])
        (try simp only [List.drop_succ_cons, List.drop_nil])
        have Hx := Lib.hid (show eqTr (n + 1) a b = false by rw [Hf.out, eqL_bad eqStr a.keys b.keys k hlt Hbad.out]; rfl)
        go_wp2_with fail
        go_ret
        exact ⟨ret_bool Hx.out.symm, bel⟩
      · have Hn := Lib.hid (show allR (k + 1) (eqAt eqStr a.keys b.keys) = true by rw [allR_succ, Hall.out, He.out]; exact q0)
        have m1 := ne_of q0
        simp only [Bool.not_true] at m1
        go_wp2_with fail
        refine wp_region_det 11 (by kernel_rfl) (by kernel_rfl) (by decide) ?_
        apply Exists.intro
        refine And.intro ?_ ?_
        · (intro W hW; (try simp only [Act.put, List.setIfInBounds_toArray, List.set_cons_zero, List.set_cons_succ]); first | (go_wp2_with fail; exact ⟨rfl, rfl, Below.refl _ _⟩))
        apply Exists.intro
        refine And.intro ?_ ?_
        · (intro W hW; (try simp only [Act.put, List.setIfInBounds_toArray, List.set_cons_zero, List.set_cons_succ]); first | (obtain ⟨hcW, hfW⟩ := bcell hW; have hsW := hW.size; (try simp at hsW); (try have hsW0 := lt_of_succ_le hsW); (try (have hsW1 := lt_pred hsW; (try (have hsW2 := lt_pred hsW1)))); go_wp2_with fail; exact ⟨rfl, rfl, Below.refl _ _⟩))
        apply Exists.intro
        refine And.intro ?_ ?_
        · (intro W hW; (try simp only [Act.put, List.setIfInBounds_toArray, List.set_cons_zero, List.set_cons_succ]); first | (go_wp2_with fail; exact ⟨rfl, rfl, Below.refl _ _⟩))
        apply Exists.intro
        refine And.intro ?_ ?_
        · (intro W hW; (try simp only [Act.put, List.setIfInBounds_toArray, List.set_cons_zero, List.set_cons_succ]); first | (go_wp2_with fail; exact ⟨rfl, rfl, Below.refl _ _⟩))
        apply Exists.intro
        refine And.intro ?_ ?_
        · (intro W hW; (try simp only [Act.put, List.setIfInBounds_toArray, List.set_cons_zero, List.set_cons_succ]); first | (obtain ⟨hcW, hfW⟩ := bcell hW; have hsW := hW.size; (try simp at hsW); (try have hsW0 := lt_of_succ_le hsW); (try (have hsW1 := lt_pred hsW; (try (have hsW2 := lt_pred hsW1)))); go_wp2_with fail; exact ⟨rfl, rfl, Below.refl _ _⟩))
        apply Exists.intro
        refine And.intro ?_ ?_
        · (intro W hW; (try simp only [Act.put, List.setIfInBounds_toArray, List.set_cons_zero, List.set_cons_succ]); first | (go_wp2_with fail; exact ⟨rfl, rfl, Below.refl _ _⟩))
        apply Exists.intro
        refine And.intro ?_ ?_
        · (intro W hW; (try simp only [Act.put, List.setIfInBounds_toArray, List.set_cons_zero, List.set_cons_succ]); first | (obtain ⟨hcW, hfW⟩ := bcell hW; have hsW := hW.size; (try simp at hsW); (try have hsW0 := lt_of_succ_le hsW); (try (have hsW1 := lt_pred hsW; (try (have hsW2 := lt_pred hsW1)))); go_wp2_with fail; exact ⟨rfl, rfl, Below.refl _ _⟩))
        apply Exists.intro
        refine And.intro ?_ ?_
        · (intro W hW; (try simp only [Act.put, List.setIfInBounds_toArray, List.set_cons_zero, List.set_cons_succ]); first | (go_wp2_with fail; exact ⟨rfl, rfl, Below.refl _ _⟩))
        apply Exists.intro
        refine And.intro ?_ ?_
        · (intro W hW; (try simp only [Act.put, List.setIfInBounds_toArray, List.set_cons_zero, List.set_cons_succ]); first | (go_wp2_with fail; exact ⟨rfl, rfl, Below.refl _ _⟩))
        apply Exists.intro
        refine And.intro ?_ ?_
        · (intro W hW; (try simp only [Act.put, List.setIfInBounds_toArray, List.set_cons_zero, List.set_cons_succ]); first | (obtain ⟨hcW, hfW⟩ := bcell hW; have hsW := hW.size; (try simp at hsW); (try have hsW0 := lt_of_succ_le hsW); (try (have hsW1 := lt_pred hsW; (try (have hsW2 := lt_pred hsW1)))); go_wp2_with fail; exact ⟨rfl, rfl, Below.refl _ _⟩))
        apply Exists.intro
        refine And.intro ?_ ?_
        · (intro W hW; (try simp only [Act.put, List.setIfInBounds_toArray, List.set_cons_zero, List.set_cons_succ]); first | (go_wp2_with fail; exact ⟨rfl, rfl, Below.refl _ _⟩))
        intro wq hbwq
        (try simp only [Act.put, List.setIfInBounds_toArray, List.set_cons_zero, List.set_cons_succ])
        (try simp only [List.drop_succ_cons, List.drop_nil])
        have HTq := Lib.hid ((hbwq.block _ hl1).trans HT.out)
        have HKq := Lib.hid ((hbwq.block _ hl2).trans HK.out)
        have HBq := Lib.hid (hbr.trans (hbwq.mono hbr.size))
        clear x0 x1 x2 x3 x4 x5 xf y0 y1 y2 y3 y4 y5 yf
        go_wp2_with fail
        go_roundw
        case rel => exact ⟨k + 1, by omega, by go_num, Hn.out, HTq.out, HKq.out, HBq.out⟩
        case measure => simp [intOf]; omega
    · obtain rfl : k = a.keys.length := by omega
      have HKs := Lib.hid (eqL_all eqStr a.keys b.keys Lk.out Hall.out)
      have hke : decide (a.keys.length < a.keys.length) = false := decide_eq_false (Nat.lt_irrefl _)
      clear hA hB Hall
      rw [HKs.out] at Hf
      simp only [Bool.true_and] at Hf
      go_wp2_with fail
      go_loopw [6] (fun v wr => ∃ k : Nat, k ≤ a.kids.length ∧ v = .int .i64 k ∧ allR k (eqAt (eqTr n) a.kids b.kids) = true ∧ wr.heap[w.heap.size]? = some (.cells #[.int .i64 a.kind, .bool a.flag, .int .i64 a.num, .string a.text, .slice A4 a.keys.length c4, .slice A5 a.kids.length c5] 27 (0, 0)) ∧ wr.heap[w.heap.size + 1]? = some (.cells #[.int .i64 b.kind, .bool b.flag, .int .i64 b.num, .string b.text, .slice zA4 b.keys.length zc4, .slice zA5 b.kids.length zc5] 27 (0, 0)) ∧ Below w.heap.size w wr) (fun v _ => a.kids.length - (intOf v).toNat)
      case atStart => exact ⟨0, Nat.zero_le _, rfl, rfl, HT.out, HK.out, hbr⟩
      case round =>
        have hb0 := hbr
        clear hbr hl1 hl2 HT HK x0 x1 x2 x3 x4 x5 xf y0 y1 y2 y3 y4 y5 yf
        obtain ⟨k, hk, rfl, hall, hT, hK, hbr⟩ := hrel
        have Hall := Lib.hid hall
        have HT := Lib.hid hT
        have HK := Lib.hid hK
        clear hall hT hK hb0
        obtain ⟨x0, x1, x2, x3, x4, x5, xf⟩ := row6 HT.out
        obtain ⟨y0, y1, y2, y3, y4, y5, yf⟩ := row6 HK.out
        have hl1 := row_lt HT.out
        have hl2 := row_lt HK.out
        by_cases hlt : k < a.kids.length
        · obtain ⟨p, o, rfl, -, hbl, hcell⟩ := hA5 (by omega)
          obtain ⟨p', o', rfl, -, hbl', hcell'⟩ := hB5 (by have := Ld.out; omega)
          obtain ⟨d, hd⟩ := exists_at hlt
          obtain ⟨d', hd'⟩ := exists_at (show k < b.kids.length by have := Ld.out; omega)
          obtain ⟨es, -, hcs, hC⟩ := hcell k d hd
          obtain ⟨es', -, hcs', hD⟩ := hcell' k d' hd'
          obtain ⟨eA4, ec4, eA5, ec5, rfl, ea0, ea2, ea3⟩ := hC.flat
          obtain ⟨fA4, fc4, fA5, fc5, rfl, fa0, fa2, fa3⟩ := hD.flat
          have hc0 := (hbr.cell (p := ⟨p, o + k * 6 + 0, none⟩) (by simp; omega)).trans (hcs 0 (by omega))
          simp at hc0
          have hc1 := (hbr.cell (p := ⟨p, o + k * 6 + 1, none⟩) (by simp; omega)).trans (hcs 1 (by omega))
          simp at hc1
          have hc2 := (hbr.cell (p := ⟨p, o + k * 6 + 2, none⟩) (by simp; omega)).trans (hcs 2 (by omega))
          simp at hc2
          have hc3 := (hbr.cell (p := ⟨p, o + k * 6 + 3, none⟩) (by simp; omega)).trans (hcs 3 (by omega))
          simp at hc3
          have hc4 := (hbr.cell (p := ⟨p, o + k * 6 + 4, none⟩) (by simp; omega)).trans (hcs 4 (by omega))
          simp at hc4
          have hc5 := (hbr.cell (p := ⟨p, o + k * 6 + 5, none⟩) (by simp; omega)).trans (hcs 5 (by omega))
          simp at hc5
          have hd0 := (hbr.cell (p := ⟨p', o' + k * 6 + 0, none⟩) (by simp; omega)).trans (hcs' 0 (by omega))
          simp at hd0
          have hd1 := (hbr.cell (p := ⟨p', o' + k * 6 + 1, none⟩) (by simp; omega)).trans (hcs' 1 (by omega))
          simp at hd1
          have hd2 := (hbr.cell (p := ⟨p', o' + k * 6 + 2, none⟩) (by simp; omega)).trans (hcs' 2 (by omega))
          simp at hd2
          have hd3 := (hbr.cell (p := ⟨p', o' + k * 6 + 3, none⟩) (by simp; omega)).trans (hcs' 3 (by omega))
          simp at hd3
          have hd4 := (hbr.cell (p := ⟨p', o' + k * 6 + 4, none⟩) (by simp; omega)).trans (hcs' 4 (by omega))
          simp at hd4
          have hd5 := (hbr.cell (p := ⟨p', o' + k * 6 + 5, none⟩) (by simp; omega)).trans (hcs' 5 (by omega))
          simp at hd5
          have hbr1 := Nat.lt_of_lt_of_le hbl hbr.size
          have hbr2 := Nat.lt_of_lt_of_le hbl' hbr.size
          have hbs := hbr.size
          have hk0 : (0 : Int) ≤ k := by omega
          have hk1 : (k : Int) < a.kids.length := by omega
          have hk2 : (k : Int) < b.kids.length := by have := Ld.out; omega
          have He := Lib.hid (eqAt_eq (eqTr n) a.kids b.kids k d d' hd hd')
          have HC := Lib.hid hC
          have HD := Lib.hid hD
          clear hcs hcell hA5 hcs' hcell' hB5 hd hd' hC hD
          rcases q0 : eqTr n d d' with _ | _
          · have Hbad := Lib.hid (show eqAt (eqTr n) a.kids b.kids k = false by rw [He.out, q0])
            have Hx := Lib.hid (show eqTr (n + 1) a b = false by rw [Hf.out]; exact eqL_bad (eqTr n) a.kids b.kids k hlt Hbad.out)
            go_wp2_with fail
            go_region_held3 (fun w' => Below (wr).heap.size (wr) w' ∧ (∀ xb xo, xb < (wr).heap.size → w'.cell? ⟨xb, xo, none⟩ = (wr).cell? ⟨xb, xo, none⟩)) (first | exact keep_drew _ | exact keep_ext (by assumption) (by assumption) | exact keep_same (by assumption) | exact keep_alloc (by assumption) _) (first | (go_at_call 25; refine (ih d d' _ _ _ _ _ (HC.out.now (ext_trans hbr (by first | (with_reducible exact Below.refl _ _) | exact (keep_same (by assumption)).1))) (HD.out.now (ext_trans hbr (by first | (with_reducible exact Below.refl _ _) | exact (keep_same (by assumption)).1)))).mono ?_; rintro e w9 ⟨rfl, hb9⟩))
            (have hb := held_step (by assumption); (first | (have hcu2 := Cum.join hcu hb; (try clear hcu); (try clear hc); (try clear hfz); (try clear hsz); (try clear hs0); (try clear hs1); (try clear hs2); (try clear hs3); (try clear hs4); ) | have hcu2 := Cum.mk hb); have hcu := hcu2; clear hcu2; obtain ⟨hc, hfz⟩ := bcell hcu.h; have hsz := hcu.h.size; (try simp at hsz); (try have hs0 := lt_of_succ_le hsz); (try (have hs1 := lt_pred hsz; (try (have hs2 := lt_pred hs1; (try (have hs3 := lt_pred hs2; (try have hs4 := lt_pred hs3))))))))
            go_wp2_with fail
            go_ret
            exact ⟨ret_bool Hx.out.symm, bel⟩
          · have Hn := Lib.hid (show allR (k + 1) (eqAt (eqTr n) a.kids b.kids) = true by rw [allR_succ, Hall.out, He.out, q0]; rfl)
            go_upto_region 11 with fail
            go_cut [87] from 76 to 87 (fun s87 wx => s87 = .bool false ∧ Below wr.heap.size wr wx)
            case first =>
              go_region_held3 (fun w' => Below (wr).heap.size (wr) w' ∧ (∀ xb xo, xb < (wr).heap.size → w'.cell? ⟨xb, xo, none⟩ = (wr).cell? ⟨xb, xo, none⟩)) (first | exact keep_drew _ | exact keep_ext (by assumption) (by assumption) | exact keep_same (by assumption) | exact keep_alloc (by assumption) _) (first | (go_at_call 25; refine (ih d d' _ _ _ _ _ (HC.out.now (ext_trans hbr (by first | (with_reducible exact Below.refl _ _) | exact (keep_same (by assumption)).1))) (HD.out.now (ext_trans hbr (by first | (with_reducible exact Below.refl _ _) | exact (keep_same (by assumption)).1)))).mono ?_; rintro e w9 ⟨rfl, hb9⟩))
              have hb := held_step (by assumption)
              go_wp2_with fail
              go_meet
              exact ⟨by simp, hb⟩
            case rest =>
              obtain ⟨rfl, hbq⟩ := hcut
              have HTq := Lib.hid ((hbq.block _ hl1).trans HT.out)
              have HKq := Lib.hid ((hbq.block _ hl2).trans HK.out)
              have HBq := Lib.hid (hbr.trans (hbq.mono hbr.size))
              go_wp2_with fail
              go_roundw
              case rel => exact ⟨k + 1, by omega, by go_num, Hn.out, HTq.out, HKq.out, HBq.out⟩
              case measure => simp [intOf]; omega
        · obtain rfl : k = a.kids.length := by omega
          have Hx := Lib.hid (show eqTr (n + 1) a b = true by rw [Hf.out]; exact eqL_all (eqTr n) a.kids b.kids Ld.out Hall.out)
          clear hA5 hB5
          go_wp2_with fail
          go_ret
          exact ⟨ret_bool Hx.out.symm, bel⟩
theorem all_sameS : ∀ n, T_sameS n
  | 0 => fun _ _ _ _ _ _ _ h _ => (C_Tree.none h).elim
  | n + 1 => of_sameS n (all_sameS n)
end Go.Proofs.YtffelpdefjkeaaaGreatDoor
namespace Go.Proofs.YtffelpdefjkeaaaGreatDoor
open Go.RowKit Go.Lib
theorem brN_good {s : ByteArray} (h : (readB s).1.code = 0) : brN s = (⟨(sayL 10 (readB s).2).toArray⟩, flt0) := by
  obtain ⟨h1, -, h3, h4⟩ := readB_ok h
  unfold brN bracedB
  rw [if_pos h, if_pos h1, if_neg (by omega)]
theorem eqL_refl {D : Type} {eq : D → D → Bool} {l : List D} (he : ∀ a ∈ l, eq a a = true) : eqL eq l l = true := by
  refine eqL_all eq l l rfl ?_
  unfold allR
  refine List.all_eq_true.2 (fun i hi => ?_)
  have g1 := List.mem_range.1 hi
  rw [eqAt_eq eq l l i l[i] l[i] (List.getElem?_eq_getElem g1) (List.getElem?_eq_getElem g1)]
  exact he _ (List.getElem_mem g1)
theorem eqTr_refl : ∀ (n : Nat) (a : TreeD), shapeT n a = true → eqTr n a a = true
  | 0, _, h => by cases h
  | n + 1, a, h => by
    rw [eqTr_succ, eqL_refl (eq := eqStr) (fun x _ => beq_self_eq_true _), eqL_refl (eq := eqTr n) (fun x hx => by
      obtain ⟨i, hi⟩ := List.getElem?_of_mem hx
      exact eqTr_refl n x (shape_kid h hi))]
    simp
end Go.Proofs.YtffelpdefjkeaaaGreatDoor
namespace Go.Proofs.YtffelpdefjkeaaaGreatDoor
open Go.RowKit Go.Lib
def okB (s : ByteArray) : Bool := (readB s).1.code == 0
set_option maxHeartbeats 1000000 in
theorem c_impl_BracedOk (s : ByteArray) (w : World) (hs : s.size ≤ 1048576) (hV : CTab w) (hT : Tabs w) (hE : ErrR w) :
    Calls Tryz.prog 11 #[.string s] w fun e w' => e = .returned (.bool (okB s)) ∧ Below w.heap.size w w' := by
  have HI := Lib.hid (c_impl_ReadBraced s w hs hV hT hE)
  have HF := Lib.hid (show okB s = ((readB s).1.code == 0) from rfl)
  obtain ⟨r, hr⟩ : ∃ r, r = readB s := ⟨_, rfl⟩
  rw [← hr] at HI HF
  clear hV hT hE hr
  obtain ⟨⟨fc, fa, fp⟩, t⟩ := r
  go_enter Tryz.func11, Tryz.ntmps11
  go_wp2_with fail
  refine HI.out.mono ?_
  rintro e w1 ⟨cs, rfl, hO, hb1⟩
  obtain ⟨U4, u44, U5, u55, rfl, -⟩ := hO.flat
  clear hO
  have hrf : fltC (⟨fc, fa, fp⟩ : Flt) = #[.int .i64 fc, .int .i64 fa, .string fp] := rfl
  simp only [hrf]
  clear hrf
  go_wp2_with fail
  go_ret
  exact ⟨ret_bool HF.out.symm, bel⟩
end Go.Proofs.YtffelpdefjkeaaaGreatDoor
namespace Go.Proofs.YtffelpdefjkeaaaGreatDoor
open Go.RowKit Go.Lib
theorem szL_same {D : Type} {f g : D → Nat} : ∀ {l : List D}, (∀ t ∈ l, f t = g t) → szL f l = szL g l
  | [], _ => rfl
  | x :: l, h => by
    simp only [szL]
    rw [h x (by simp), szL_same (fun t ht => h t (by simp [ht]))]
theorem mxL_same {D : Type} {f g : D → Nat} : ∀ {l : List D}, (∀ t ∈ l, f t = g t) → mxL f l = mxL g l
  | [], _ => rfl
  | x :: l, h => by
    simp only [mxL]
    rw [h x (by simp), mxL_same (fun t ht => h t (by simp [ht]))]
theorem items_same {pre : Nat → List UInt8} {f g : TreeD → List UInt8} {l : List TreeD} (h : ∀ t ∈ l, f t = g t) : ∀ k, itemsT pre f l k = itemsT pre g l k
  | 0 => rfl
  | k + 1 => by
    unfold itemsT
    rw [items_same h k]
    rcases ht : l[k]? with _ | t
    · rfl
    · simp only
      rw [h t (List.mem_of_getElem? ht)]
structure Up (n m : Nat) (d : TreeD) : Prop where
  shape : shapeT m d = true
  say : sayL m d = sayL n d
  size : sizeT m d = sizeT n d
  deep : depthT m d = depthT n d
  num : numT n d → numT m d
theorem fuel_up : ∀ (n m : Nat) (d : TreeD), n ≤ m → shapeT n d = true → Up n m d
  | 0, _, _, _, h => by cases h
  | n + 1, 0, _, hm, _ => absurd hm (by omega)
  | n + 1, m + 1, d, hm, h => by
    obtain ⟨h1, h2, h3, h4, h5⟩ := shape_parts h
    have hk : ∀ t ∈ d.kids, Up n m t := fun t ht => by
      obtain ⟨i, hi⟩ := List.getElem?_of_mem ht
      exact fuel_up n m t (by omega) (shape_kid h hi)
    refine ⟨shape_mk h1 h2 h3 h4 (fun t ht => (hk t ht).shape), ?_, ?_, ?_, fun hn => ⟨hn.1, fun t ht => (hk t ht).num (hn.2 t ht)⟩⟩
    · rw [sayL_succ, sayL_succ, items_same (fun t ht => (hk t ht).say), items_same (fun t ht => (hk t ht).say)]
    · rw [sizeT_succ, sizeT_succ, szL_same (fun t ht => (hk t ht).size)]
    · rw [depthT_succ, depthT_succ, mxL_same (fun t ht => (hk t ht).deep)]
structure Ten (d : TreeD) : Prop where
  ok : okT 10 d = true
  num : numT 10 d
  say : (sayL 10 d).length ≤ 18266
  shape : shapeT 10 d = true
  size : sizeT 10 d ≤ 300
theorem Drawn.ten {d : TreeD} (h : Drawn 4 d) : Ten d := by
  have u := fuel_up 4 10 d (by decide) h.shape
  have h1 := h.ok (Nat.le_refl _)
  have h2 := (h.fits (Nat.le_refl _)).2.2
  obtain ⟨h3, -⟩ := okT_parts h1
  have h4 := okT_deep h1
  refine ⟨?_, u.num h.num, by rw [u.say]; exact h2, u.shape, by rw [u.size]; exact h3⟩
  rw [okT_def, u.shape, decide_eq_true (by rw [u.deep]; exact h4), decide_eq_true (by rw [u.size]; exact h3)]
  rfl
theorem bs_app (a b : List UInt8) : (⟨a.toArray⟩ : ByteArray) ++ ⟨b.toArray⟩ = ⟨(a ++ b).toArray⟩ := by
  apply ByteArray.ext
  rw [ByteArray.data_append]
  simp
/-- The text of a right tree that is not too long. -/
def txt (d : TreeD) : ByteArray := ⟨(sayL 10 d).toArray⟩
theorem txt_size (d : TreeD) : (txt d).size = (sayL 10 d).length := size_list _
theorem readB_none : readB ⟨#[]⟩ = (⟨4, 0, ⟨#[]⟩⟩, treeZ) := by kernel_rfl
theorem Ten.braced {d : TreeD} (h : Ten d) : bracedB 10 d = txt d := by
  have := h.say
  unfold bracedB
  rw [if_pos h.ok, if_neg (by omega)]
  rfl
theorem Ten.read {d : TreeD} (h : Ten d) : readB (txt d) = (flt0, d) := readB_back h.ok h.num (by have := h.say; omega)
theorem Ten.norm {d : TreeD} (h : Ten d) : brN (⟨#[32]⟩ ++ txt d ++ ⟨#[10]⟩) = (txt d, flt0) := by
  have e : (⟨#[32]⟩ ++ txt d ++ ⟨#[10]⟩ : ByteArray) = ⟨([32] ++ (sayL 10 d ++ [10])).toArray⟩ := by
    have h1 := bs_app [32] (sayL 10 d)
    have h2 := bs_app ([32] ++ sayL 10 d) [10]
    rw [← List.append_assoc, ← h2, ← h1]
    rfl
  have hr := readB_wrap (a := [32]) (z := [10]) h.ok h.num (fun c hc => by simp at hc; subst hc; decide) (fun c hc => by simp at hc; subst hc; decide) (by have := h.say; simp; omega)
  rw [← e] at hr
  have hg := brN_good (s := ⟨#[32]⟩ ++ txt d ++ ⟨#[10]⟩) (by rw [hr]; rfl)
  rw [hr] at hg
  exact hg
theorem Ten.close {d : TreeD} (h : Ten d) : readB (txt d ++ ⟨#[93]⟩) = (⟨4, ((txt d).size : Nat), ⟨#[]⟩⟩, treeZ) := by
  have e : (txt d ++ ⟨#[93]⟩ : ByteArray) = ⟨(sayL 10 d ++ [93]).toArray⟩ := bs_app (sayL 10 d) [93]
  rw [e, readB_close h.ok h.num (by have := h.say; omega), txt_size]
theorem Ten.pos {d : TreeD} (h : Ten d) : 0 < (txt d).size := by
  rcases Nat.eq_zero_or_pos (txt d).size with h0 | h0
  · have hr := h.read
    rw [txt_size] at h0
    have e : txt d = ⟨#[]⟩ := by unfold txt; rw [List.eq_nil_of_length_eq_zero h0]
    rw [e, readB_none] at hr
    cases hr
  · exact h0
theorem Ten.okB {d : TreeD} (h : Ten d) : okB (txt d) = true := by
  unfold Go.Proofs.YtffelpdefjkeaaaGreatDoor.okB
  rw [h.read]
  rfl
end Go.Proofs.YtffelpdefjkeaaaGreatDoor
namespace Go.Proofs.YtffelpdefjkeaaaGreatDoor
open Go.RowKit Go.Lib
theorem MapG.pushK {nT base hi : Nat} {w w' : World} {ks : List ByteArray} {l : List TreeD} {vk vl : Value} {ess : List (List Value)} {F : Nat → Nat → Prop} {key : ByteArray} {g cap n : Nat} (h : MapG nT base hi w ks l vk vl ess F) (hhi : hi ≤ w.heap.size) (hn : ks.length = n) (hkey : key.size ≤ 9223372036854775807)
    (ho : w'.ownsRow base 9 1 (.slice (some ⟨g, 0, none⟩) (n + 1) cap) (n + 1) (ks.map Value.string ++ [.string key])) (hkeep : ∀ b, b < w.heap.size → vk.ownBlock ≠ some b → w'.heap[b]? = w.heap[b]?) (hs : w.heap.size ≤ w'.heap.size) (hat : vk.ownBlock = some g ∨ w.heap.size ≤ g) :
    MapG nT base w'.heap.size w' (ks ++ [key]) l (.slice (some ⟨g, 0, none⟩) (n + 1) cap) vl ess F := by
  subst hn
  have hvv := own_apart h.keys h.kids (by decide)
  have hgb : ∀ b, b < hi → vk.ownBlock ≠ some b → (Value.slice (some ⟨g, 0, none⟩) (ks.length + 1) cap).ownBlock ≠ some b := fun b hb hne e => by
    simp [Value.ownBlock] at e
    subst e
    rcases hat with h1 | h1
    · exact hne h1
    · omega
  have hlk : ∀ q, vl.ownBlock = some q → w'.heap[q]? = w.heap[q]? := fun q hq => hkeep q (Nat.lt_of_lt_of_le (h.hl q hq) hhi) (fun e => hvv q e hq)
  refine ⟨h.len, h.six, by simpa using ho, ownsRow_carry h.kids hlk, fun q hq => (ho.lt q hq).2, fun q hq => Nat.lt_of_lt_of_le (h.hl q hq) (Nat.le_trans hhi hs), fun i b hF => ?_, h.apart, fun i d es hd he => (h.own i d es hd he).carry (fun b hF => hkeep b (Nat.lt_of_lt_of_le (h.part i b hF).2.1 hhi) (h.part i b hF).2.2.1) (fun _ h => h), fun s hs => ?_⟩
  · obtain ⟨f1, f2, f3, f4⟩ := h.part i b hF
    exact ⟨f1, by omega, hgb b f2 f3, f4⟩
  · rcases List.mem_append.1 hs with hs | hs
    · exact h.size s hs
    · simp at hs; subst hs; exact hkey
theorem MapG.pushL {nT base hi : Nat} {w w' : World} {ks : List ByteArray} {l : List TreeD} {vk vl : Value} {ess : List (List Value)} {F : Nat → Nat → Prop} {S : Nat → Prop} {t : TreeD} {es : List Value} {g cap n : Nat} (h : MapG nT base hi w ks l vk vl ess F) (hhi : hi ≤ w.heap.size) (hbh : base ≤ hi) (hn : l.length = n) (ht : OwnT nT S w t es) (hS : ∀ b, S b → hi ≤ b ∧ b < w.heap.size)
    (ho : w'.ownsRow base 27 6 (.slice (some ⟨g, 0, none⟩) (n + 1) cap) (n + 1) (ess.flatten ++ es)) (hkeep : ∀ b, b < w.heap.size → vl.ownBlock ≠ some b → w'.heap[b]? = w.heap[b]?) (hs : w.heap.size ≤ w'.heap.size) (hat : vl.ownBlock = some g ∨ w.heap.size ≤ g) :
    MapG nT base w'.heap.size w' ks (l ++ [t]) vk (.slice (some ⟨g, 0, none⟩) (n + 1) cap) (ess ++ [es]) (fun i b => (i < l.length ∧ F i b) ∨ (i = l.length ∧ S b)) := by
  subst hn
  have hvv := own_apart h.kids h.keys (by decide)
  have hgb : ∀ b, b < w.heap.size → vl.ownBlock ≠ some b → (Value.slice (some ⟨g, 0, none⟩) (l.length + 1) cap).ownBlock ≠ some b := fun b hb hne e => by
    simp [Value.ownBlock] at e
    subst e
    rcases hat with h1 | h1
    · exact hne h1
    · omega
  have hkk : ∀ q, vk.ownBlock = some q → w'.heap[q]? = w.heap[q]? := fun q hq => hkeep q (Nat.lt_of_lt_of_le (h.hk q hq) hhi) (fun e => hvv q e hq)
  have hlen := h.len
  refine ⟨by simp [hlen], ?_, ownsRow_carry h.keys hkk, by simpa using ho, fun q hq => Nat.lt_of_lt_of_le (h.hk q hq) (Nat.le_trans hhi hs), fun q hq => (ho.lt q hq).2, ?_, ?_, ?_, h.size⟩
  · intro x hx
    rcases List.mem_append.1 hx with hx | hx
    · exact h.six x hx
    · simp at hx; subst hx; exact ht.len
  · rintro i b (⟨-, hF⟩ | ⟨-, hF⟩)
    · obtain ⟨f1, f2, f3, f4⟩ := h.part i b hF
      exact ⟨f1, by omega, f3, hgb b (by omega) f4⟩
    · obtain ⟨f1, f2⟩ := hS b hF
      exact ⟨by omega, by omega, fun e => by have := h.hk b e; omega, hgb b f2 (fun e => by have := h.hl b e; omega)⟩
  · rintro i j b (⟨hi, hF⟩ | ⟨hi, hF⟩) (⟨hj, hG⟩ | ⟨hj, hG⟩)
    · exact h.apart i j b hF hG
    · have := (h.part i b hF).2.1; have := (hS b hG).1; omega
    · have := (h.part j b hG).2.1; have := (hS b hF).1; omega
    · omega
  · intro i d' es' hd' hes'
    by_cases hlt : i < l.length
    · rw [List.getElem?_append_left hlt] at hd'
      rw [List.getElem?_append_left (by omega)] at hes'
      exact (h.own i d' es' hd' hes').carry (fun b hF => hkeep b (Nat.lt_of_lt_of_le (h.part i b hF).2.1 hhi) (h.part i b hF).2.2.2) (fun b hF => .inl ⟨hlt, hF⟩)
    · have hil : i = l.length := by
        have := (List.getElem?_eq_some_iff.1 hd').1
        simp at this
        omega
      subst hil
      rw [List.getElem?_append_right (by omega)] at hd'
      rw [List.getElem?_append_right (by omega)] at hes'
      simp at hd'
      simp [hlen] at hes'
      subst hd' hes'
      exact ht.carry (fun b hF => hkeep b (hS b hF).2 (fun e => by have := h.hl b e; have := (hS b hF).1; omega)) (fun b hF => .inr ⟨rfl, hF⟩)
set_option maxRecDepth 10000 in
theorem c_ListTreeG (n : Nat) (l : List TreeD) (K : Option Addr) (c5 : Nat) (w : World) (lo : Nat) (h : C_Tree (n + 1) lo w.heap.size w (tList l) [.int .i64 5, .bool false, .int .i64 0, .string ⟨#[]⟩, .slice none 0 0, .slice K l.length c5]) (hn : nTree (n + 1) (tList l) ≤ 1048576) :
    Calls Tryz.prog 78 #[.slice K l.length c5] w fun e w' => ∃ cs', e = .returned (.agg cs'.toArray) ∧ OwnT (n + 1) (fun b => w.heap.size < b ∧ b < w'.heap.size) w' (tList l) cs' ∧ Below w.heap.size w w' := by
  go_enter Tryz.func78, Tryz.ntmps78
  go_wp2_with fail
  refine (all_l08 (n + 1) (tList l) _ _ lo (h.now bel) hn).mono ?_
  rintro e w1 ⟨cs1, rfl, hO, hb⟩
  obtain ⟨A4, c4, A5, c6, rfl, -⟩ := hO.flat
  have Z := (hb.block w.heap.size (by simp)).trans (heap_at (by simp))
  have hl := row_lt Z
  obtain ⟨x0, x1, x2, x3, x4, x5, xf⟩ := row6 Z
  have HO := Lib.hid hO
  have Bw : Below w.heap.size w w1 := Below.trans bel (hb.mono (by simp))
  clear Z hO hb
  go_wp2_with fail
  refine bodyPost_ret (v := .agg #[.int .i64 (tList l).kind, .bool (tList l).flag, .int .i64 (tList l).num, .string (tList l).text, .slice A4 (tList l).keys.length c4, .slice A5 (tList l).kids.length c6]) (by simp only [results, Tryz.results78]; go_simp) rfl ⟨_, rfl, HO.out.carry (fun b hb => Aside.block (S := fun b => b = w.heap.size) (w := w1) (by repeat (first | (with_reducible exact Aside.refl _ _) | ((with_reducible refine aside_set ?_ ?_); (focus (simp; done))) | (with_reducible refine aside_alloc ?_))) b hb.2 (by have := hb.1; simp at this; omega)) (fun b hb => by simp at hb ⊢; omega), Bw.trans (Aside.below (S := fun b => b = w.heap.size) (by repeat (first | (with_reducible exact Aside.refl _ _) | ((with_reducible refine aside_set ?_ ?_); (focus (simp; done))) | (with_reducible refine aside_alloc ?_))) Bw.size (fun i hi => by omega))⟩
end Go.Proofs.YtffelpdefjkeaaaGreatDoor
namespace Go.Proofs.YtffelpdefjkeaaaGreatDoor
open Go.RowKit Go.Lib
structure PutR (n : Nat) (d kid : TreeD) (A4 : Option Addr) (c4 : Nat) (A5 : Option Addr) (c5 : Nat) (E4 : Option Addr) (e4 : Nat) (E5 : Option Addr) (e5 : Nat) (B : Nat) (w wr : World) (K : List ByteArray) (V : List TreeD) (nk nv : Nat) (B4 : Option Addr) (b4 : Nat) (B5 : Option Addr) (b5 : Nat) (ess : List (List Value)) (F : Nat → Nat → Prop) : Prop where
  ra : wr.heap[w.heap.size]? = some (.cells #[.int .i64 d.kind, .bool d.flag, .int .i64 d.num, .string d.text, .slice A4 d.keys.length c4, .slice A5 d.kids.length c5] 27 (0, 0))
  rk : wr.heap[w.heap.size + 1]? = some (.cells #[.int .i64 kid.kind, .bool kid.flag, .int .i64 kid.num, .string kid.text, .slice E4 kid.keys.length e4, .slice E5 kid.kids.length e5] 27 (0, 0))
  rz : wr.heap[w.heap.size + 2]? = some (.cells #[.int .i64 0, .bool false, .int .i64 0, .string ⟨#[]⟩, .slice none 0 0, .slice none 0 0] 27 (0, 0))
  ro : wr.heap[B]? = some (.cells #[.int .i64 6, .bool false, .int .i64 0, .string ⟨#[]⟩, .slice B4 nk b4, .slice B5 nv b5] 27 (0, 0))
  hk : K.length = nk
  hv : V.length = nv
  map : MapG n (B + 1) wr.heap.size wr K V (.slice B4 nk b4) (.slice B5 nv b5) ess F
  below : Below w.heap.size w wr
  lt : w.heap.size + 3 ≤ B
theorem own_heap {wr W : World} {base : Nat} {e : TypeId} {size n : Nat} {v : Value} {xs : List Value} (h : wr.ownsRow base e size v n xs) (he : W.heap = wr.heap) : W.ownsRow base e size v n xs := ownsRow_carry h (fun q _ => by rw [he])
theorem PutR.key {n B nk nv b4 b5 c4 c5 e4 e5 : Nat} {A4 A5 E4 E5 B4 B5 : Option Addr} {d kid : TreeD} {w wr : World} {K : List ByteArray} {V : List TreeD} {ess : List (List Value)} {F : Nat → Nat → Prop} {w1 : World} {g cap : Nat} {key : ByteArray} (h : PutR n d kid A4 c4 A5 c5 E4 e4 E5 e5 B w wr K V nk nv B4 b4 B5 b5 ess F) (hkey : key.size ≤ 9223372036854775807)
    (ho : w1.ownsRow (B + 1) 9 1 (.slice (some ⟨g, 0, none⟩) (nk + 1) cap) (nk + 1) (K.map Value.string ++ [.string key])) (hkeep : ∀ b, b < wr.heap.size → (Value.slice B4 nk b4).ownBlock ≠ some b → w1.heap[b]? = wr.heap[b]?) (hs : wr.heap.size ≤ w1.heap.size) (hb : Below w.heap.size w w1) (hat : (Value.slice B4 nk b4).ownBlock = some g ∨ wr.heap.size ≤ g) :
    w1.heap[B]? = some (.cells #[.int .i64 6, .bool false, .int .i64 0, .string ⟨#[]⟩, .slice B4 nk b4, .slice B5 nv b5] 27 (0, 0)) ∧ PutR n d kid A4 c4 A5 c5 E4 e4 E5 e5 B w (w1.setCell ⟨B, 4, none⟩ (.slice (some ⟨g, 0, none⟩) (nk + 1) cap)) (K ++ [key]) V (nk + 1) nv (some ⟨g, 0, none⟩) cap B5 b5 ess F := by
  have hl := row_lt h.ro
  have hlt := h.lt
  have hno : ∀ b, b ≤ B → (Value.slice B4 nk b4).ownBlock ≠ some b := fun b hb e => by have := (h.map.keys.lt b e).1; omega
  have hk4 := fun b (hb : b ≤ B) => hkeep b (by omega) (hno b hb)
  have hM := h.map.pushK (Nat.le_refl _) h.hk hkey ho hkeep hs hat
  refine ⟨(hk4 B (Nat.le_refl _)).trans h.ro, ?_, ?_, ?_, ?_, by rw [List.length_append, h.hk]; rfl, h.hv, hM.carry (by simp) (fun q h1 _ => Below.heap_setCell _ _ _ q (by simp; omega)), hb.setCell (by simp; omega) _, hlt⟩
  · exact (Below.heap_setCell _ _ _ _ (by simp; omega)).trans ((hk4 _ (by omega)).trans h.ra)
  · exact (Below.heap_setCell _ _ _ _ (by simp; omega)).trans ((hk4 _ (by omega)).trans h.rk)
  · exact (Below.heap_setCell _ _ _ _ (by simp; omega)).trans ((hk4 _ (by omega)).trans h.rz)
  · exact heap_setCell_same w1 B 4 _ _ _ ((hk4 B (Nat.le_refl _)).trans h.ro)
theorem PutR.kid {n B nk nv b4 b5 c4 c5 e4 e5 : Nat} {A4 A5 E4 E5 B4 B5 : Option Addr} {d kid : TreeD} {w wr : World} {K : List ByteArray} {V : List TreeD} {ess : List (List Value)} {F : Nat → Nat → Prop} {w9 w2 : World} {g cap : Nat} {t : TreeD} {es : List Value} (h : PutR n d kid A4 c4 A5 c5 E4 e4 E5 e5 B w wr K V nk nv B4 b4 B5 b5 ess F) (hk9 : ∀ b, b < wr.heap.size → w9.heap[b]? = wr.heap[b]?) (hs9 : wr.heap.size ≤ w9.heap.size) (ht : OwnT n (fun b => wr.heap.size ≤ b ∧ b < w9.heap.size) w9 t es)
    (ho : w2.ownsRow (B + 1) 27 6 (.slice (some ⟨g, 0, none⟩) (nv + 1) cap) (nv + 1) (ess.flatten ++ es)) (hkeep : ∀ b, b < w9.heap.size → (Value.slice B5 nv b5).ownBlock ≠ some b → w2.heap[b]? = w9.heap[b]?) (hs : w9.heap.size ≤ w2.heap.size) (hb : Below w.heap.size w w2) (hat : (Value.slice B5 nv b5).ownBlock = some g ∨ w9.heap.size ≤ g) :
    w2.heap[B]? = some (.cells #[.int .i64 6, .bool false, .int .i64 0, .string ⟨#[]⟩, .slice B4 nk b4, .slice B5 nv b5] 27 (0, 0)) ∧ ∃ F', PutR n d kid A4 c4 A5 c5 E4 e4 E5 e5 B w (w2.setCell ⟨B, 5, none⟩ (.slice (some ⟨g, 0, none⟩) (nv + 1) cap)) K (V ++ [t]) nk (nv + 1) B4 b4 (some ⟨g, 0, none⟩) cap (ess ++ [es]) F' := by
  have hl := row_lt h.ro
  have hlt := h.lt
  have hno : ∀ b, b ≤ B → (Value.slice B5 nv b5).ownBlock ≠ some b := fun b hb e => by have := (h.map.kids.lt b e).1; omega
  have hk4 := fun b (hb : b ≤ B) => (hkeep b (by omega) (hno b hb)).trans (hk9 b (by omega))
  have hM := (h.map.carry (Nat.le_refl _) (fun q _ hq => hk9 q hq)).pushL hs9 (by omega) h.hv ht (fun b hb => hb) ho hkeep hs hat
  refine ⟨(hk4 B (Nat.le_refl _)).trans h.ro, _, ?_, ?_, ?_, ?_, h.hk, by rw [List.length_append, h.hv]; rfl, hM.carry (by simp) (fun q h1 _ => Below.heap_setCell _ _ _ q (by simp; omega)), hb.setCell (by simp; omega) _, hlt⟩
  · exact (Below.heap_setCell _ _ _ _ (by simp; omega)).trans ((hk4 _ (by omega)).trans h.ra)
  · exact (Below.heap_setCell _ _ _ _ (by simp; omega)).trans ((hk4 _ (by omega)).trans h.rk)
  · exact (Below.heap_setCell _ _ _ _ (by simp; omega)).trans ((hk4 _ (by omega)).trans h.rz)
  · exact heap_setCell_same w2 B 5 _ _ _ ((hk4 B (Nat.le_refl _)).trans h.ro)
theorem putS_len (key : ByteArray) (kid : TreeD) (ks : List ByteArray) (vs : List TreeD) : ∀ i, (putS key kid ks vs i).ks.length = (putS key kid ks vs i).vs.length ∧ (putS key kid ks vs i).ks.length ≤ i + 1 ∧ ((putS key kid ks vs i).laid = false → (putS key kid ks vs i).ks.length ≤ i)
  | 0 => ⟨rfl, Nat.zero_le _, fun _ => Nat.le_refl _⟩
  | i + 1 => by
    obtain ⟨h1, h2, h3⟩ := putS_len key kid ks vs i
    rw [putS]
    split
    · unfold putOne
      generalize putS key kid ks vs i = st at *
      obtain ⟨l, K, V⟩ := st
      simp only at *
      repeat' split
      · rename_i c _
        simp at c
        have := h3 c.1
        refine ⟨by simp [h1], by simp; omega, fun h => by cases h⟩
      · rename_i c _
        simp at c
        have := h3 c.1
        refine ⟨by simp [h1], by simp; omega, fun h => by cases h⟩
      · exact ⟨h1, (show K.length ≤ i + 1 + 1 by omega), fun h => (show K.length ≤ i + 1 by have := h3 h; omega)⟩
      · exact ⟨by simp [h1], by simp; omega, fun h => by have := h3 h; simp; omega⟩
    · exact ⟨h1, by omega, fun h => by have := h3 h; omega⟩
end Go.Proofs.YtffelpdefjkeaaaGreatDoor
namespace Go.Proofs.YtffelpdefjkeaaaGreatDoor
open Go.RowKit Go.Lib
def PutP (n : Nat) (d : TreeD) (key : ByteArray) (kid : TreeD) (w : World) (e : Ending) (w' : World) : Prop :=
  ∃ cs', e = .returned (.tuple #[.agg cs'.toArray, .bool (putB (n + 1) d key kid)]) ∧ OwnT (n + 1) (fun q => w.heap.size ≤ q ∧ q < w'.heap.size) w' (putT (n + 1) d key kid) cs' ∧ Below w.heap.size w w'
theorem put_no {n : Nat} {d kid : TreeD} {key : ByteArray} {w wF : World} {C4 C5 : Option Addr} {n4 d4 n5 d5 : Nat} {k m : Int} {f : Bool} {t : ByteArray} (h : putB (n + 1) d key kid = false) (hO : OwnT (n + 1) (fun q => w.heap.size ≤ q ∧ q < wF.heap.size) wF d [.int .i64 k, .bool f, .int .i64 m, .string t, .slice C4 n4 d4, .slice C5 n5 d5]) (hb : Below w.heap.size w wF) :
    PutP n d key kid w (.returned (.tuple #[.agg #[.int .i64 k, .bool f, .int .i64 m, .string t, .slice C4 n4 d4, .slice C5 n5 d5], .bool false])) wF := by
  refine ⟨_, by rw [h], ?_, hb⟩
  unfold putT
  rw [if_neg (by rw [h]; decide)]
  exact hO
set_option maxHeartbeats 4000000 in
set_option maxRecDepth 20000 in
theorem c_put_kind (n : Nat) (d kid : TreeD) (cs es : List Value) (key : ByteArray) (w : World) (lo : Nat) (h : C_Tree (n + 1) lo w.heap.size w d cs) (hkd : C_Tree n lo w.heap.size w kid es) (_hkey : key.size ≤ 9223372036854775807) (_hz : sizeT (n + 1) d ≤ 1073741824) (_hkz : sizeT n kid ≤ 1048576) (hn : nTree (n + 1) d ≤ 1048576) (_hkn : nTree n kid ≤ 1048576) (hd : d.kind ≠ 6) : Calls Tryz.prog 79 #[.agg cs.toArray, .string key, .agg es.toArray] w (PutP n d key kid w) := by
  have HF := Lib.hid (show putB (n + 1) d key kid = false by unfold putB; rw [beq_eq_false_iff_ne.2 hd]; rfl)
  have hx : (d.kind != 6) = true := bne_iff_ne.2 hd
  obtain ⟨A4, c4, A5, c5, rfl⟩ := C_Tree.open h
  obtain ⟨E4, e4, E5, e5, rfl⟩ := C_Tree.open hkd
  have HC := Lib.hid h
  clear h hd
  go_enter Tryz.func79, Tryz.ntmps79
  go_wp2_with fail
  refine (all_l08 (n + 1) d _ _ lo (HC.out.now bel) hn).mono ?_
  rintro e wc ⟨cs1, rfl, hO, hbc⟩
  obtain ⟨C4, d4, C5, d5, rfl, -⟩ := hO.flat
  have Zc := (hbc.block (w.heap.size + 2) (by simp; try omega)).trans (heap_at (by simp))
  have zl := row_lt Zc
  obtain ⟨z0, z1, z2, z3, z4, z5, zf⟩ := row6 Zc
  have HO := Lib.hid hO
  have Bc : Below w.heap.size w wc := Below.trans bel (hbc.mono (by simp; try omega))
  have hzc := hbc.size
  simp at hzc
  clear Zc hO hbc
  go_wp2_with fail
  refine bodyPost_ret (v := .tuple #[.agg #[.int .i64 d.kind, .bool d.flag, .int .i64 d.num, .string d.text, .slice C4 d.keys.length d4, .slice C5 d.kids.length d5], .bool false]) (by simp only [results, Tryz.results79]; go_simp) rfl (put_no HF.out (HO.out.carry (fun b hb => Aside.block (S := fun b => b = w.heap.size + 2) (w := wc) (by repeat (first | (with_reducible exact Aside.refl _ _) | ((with_reducible refine aside_set ?_ ?_); (focus (simp; done))) | (with_reducible refine aside_alloc ?_))) b hb.2 (by have q1 := hb.1; (try simp at q1); omega)) (fun b hb => by have q1 := hb.1; have q2 := hb.2; (try simp at q1); (try simp at q2); (try simp); omega)) (Bc.trans (Aside.below (S := fun b => b = w.heap.size + 2) (by repeat (first | (with_reducible exact Aside.refl _ _) | ((with_reducible refine aside_set ?_ ?_); (focus (simp; done))) | (with_reducible refine aside_alloc ?_))) Bc.size (fun i hi => by omega))))
set_option maxHeartbeats 4000000 in
set_option maxRecDepth 20000 in
theorem c_put_not (n : Nat) (d kid : TreeD) (cs es : List Value) (key : ByteArray) (w : World) (lo : Nat) (h : C_Tree (n + 1) lo w.heap.size w d cs) (hkd : C_Tree n lo w.heap.size w kid es) (_hkey : key.size ≤ 9223372036854775807) (hz : sizeT (n + 1) d ≤ 1073741824) (_hkz : sizeT n kid ≤ 1048576) (hn : nTree (n + 1) d ≤ 1048576) (_hkn : nTree n kid ≤ 1048576) (hd : d.kind = 6) (ho : okT (n + 1) d = false) : Calls Tryz.prog 79 #[.agg cs.toArray, .string key, .agg es.toArray] w (PutP n d key kid w) := by
  have HF := Lib.hid (show putB (n + 1) d key kid = false by unfold putB; rw [ho, Bool.and_false]; rfl)
  have hx : (d.kind != 6) = false := by simp [hd]
  obtain ⟨A4, c4, A5, c5, rfl⟩ := C_Tree.open h
  obtain ⟨E4, e4, E5, e5, rfl⟩ := C_Tree.open hkd
  have HC := Lib.hid h
  have Ho := Lib.hid ho
  clear h hd ho
  go_enter Tryz.func79, Tryz.ntmps79
  go_wp2_with fail
  refine (c_spec_TreeOk (n + 1) d _ _ lo (HC.out.now bel) hz).mono ?_
  rintro e w1 ⟨rfl, hb1⟩
  rw [Ho.out]
  have HB1 := Lib.hid (Below.trans bel (hb1.mono (by simp; try omega)) : Below w.heap.size w w1)
  have hA := Lib.hid ((hb1.block w.heap.size (by simp; try omega)).trans ((Below.heap_alloc _ _ _ (by simp; try omega)).trans ((Below.heap_alloc _ _ _ (by simp; try omega)).trans (heap_at rfl))))
  have hZ := Lib.hid ((hb1.block (w.heap.size + 2) (by simp; try omega)).trans (heap_at (by simp)))
  have al := row_lt hA.out
  have zl1 := row_lt hZ.out
  have hB := HB1.out
  obtain ⟨a0, a1, a2, a3, a4, a5, af⟩ := row6 hA.out
  clear hb1
  go_wp2_with fail
  refine (all_l08 (n + 1) d _ _ lo (HC.out.now bel) hn).mono ?_
  rintro e wc ⟨cs1, rfl, hO, hbc⟩
  obtain ⟨C4, d4, C5, d5, rfl, -⟩ := hO.flat
  have Zc := (hbc.block (w.heap.size + 2) (row_lt hZ.out)).trans hZ.out
  have zl := row_lt Zc
  obtain ⟨z0, z1, z2, z3, z4, z5, zf⟩ := row6 Zc
  have HO := Lib.hid hO
  have Bc : Below w.heap.size w wc := HB1.out.trans (hbc.mono HB1.out.size)
  have hzc := hbc.size
  clear Zc hO hbc
  go_wp2_with fail
  refine bodyPost_ret (v := .tuple #[.agg #[.int .i64 d.kind, .bool d.flag, .int .i64 d.num, .string d.text, .slice C4 d.keys.length d4, .slice C5 d.kids.length d5], .bool false]) (by simp only [results, Tryz.results79]; go_simp) rfl (put_no HF.out (HO.out.carry (fun b hb => Aside.block (S := fun b => b = w.heap.size + 2) (w := wc) (by repeat (first | (with_reducible exact Aside.refl _ _) | ((with_reducible refine aside_set ?_ ?_); (focus (simp; done))) | (with_reducible refine aside_alloc ?_))) b hb.2 (by have q1 := hb.1; (try simp at q1); omega)) (fun b hb => by have q1 := hb.1; have q2 := hb.2; (try simp at q1); (try simp at q2); (try simp); omega)) (Bc.trans (Aside.below (S := fun b => b = w.heap.size + 2) (by repeat (first | (with_reducible exact Aside.refl _ _) | ((with_reducible refine aside_set ?_ ?_); (focus (simp; done))) | (with_reducible refine aside_alloc ?_))) Bc.size (fun i hi => by omega))))
end Go.Proofs.YtffelpdefjkeaaaGreatDoor
