/- Written by wip/tools/pack.py: the texts that FnExactReadBraced and FnExactBracedSame needs, without what it does not need. No conditions. -/
import Derived.Test.YtffelpdefjkeaaaGreatDoorKBr23
import Derived.Test.YtffelpdefjkeaaaGreatDoorKBr1
import Derived.Test.YtffelpdefjkeaaaGreatDoorKBr10
import Derived.Test.YtffelpdefjkeaaaGreatDoorKBr11
import Derived.Deep.CutRange
import Derived.Deep.RegionHeld3
import Derived.Test.YtffelpdefjkeaaaGreatDoorKBr22
namespace Go.Proofs.YtffelpdefjkeaaaGreatDoor
open Go.RowKit
/-- The same tree, down to depth n. -/
def eqTr : Nat → TreeD → TreeD → Bool
  | 0, _, _ => false
  | n + 1, a, b => (a.kind == b.kind) && (a.flag == b.flag) && (a.num == b.num) && (a.text.toList == b.text.toList) && eqL eqStr a.keys b.keys && eqL (eqTr n) a.kids b.kids
theorem eqTr_succ (n : Nat) (a b : TreeD) : eqTr (n + 1) a b = ((a.kind == b.kind) && (a.flag == b.flag) && (a.num == b.num) && (a.text.toList == b.text.toList) && eqL eqStr a.keys b.keys && eqL (eqTr n) a.kids b.kids) := rfl
def T_sameI (n : Nat) : Prop := ∀ (a b : TreeD) (ca cb : List Value) (w : World) (lo lo' : Nat), C_Tree n lo w.heap.size w a ca → C_Tree n lo' w.heap.size w b cb →
    Calls Tryz.prog 29 #[.agg ca.toArray, .agg cb.toArray] w fun e w' => e = .returned (.bool (eqTr n a b)) ∧ Below w.heap.size w w'
set_option maxHeartbeats 4000000 in
theorem c_EqualFunc_Tree (n : Nat) (ih : T_sameI n) (l m : List TreeD) (va vb : Value) (w : World) (lo lo' : Nat) (ha : Sl_Tree n lo w.heap.size w l va) (hb : Sl_Tree n lo' w.heap.size w m vb) :
    Calls Tryz.prog 55 #[va, vb, .func (.func 29) #[] #[]] w fun e w' => e = .returned (.bool (eqL (eqTr n) l m)) ∧ Below w.heap.size w w' := by
  obtain ⟨A, c, rfl, hlc, hc, hA⟩ := ha
  obtain ⟨B, c', rfl, hlc', hc', hB⟩ := hb
  by_cases hlen : l.length = m.length
  · have hz : ((l.length : Int) != m.length) = false := by simp [hlen]
    have Hlen := Lib.hid hlen
    clear hlen
    go_enter Tryz.func55, Tryz.ntmps55
    go_wp2_with fail
    go_loopw [17] (fun i wr => ∃ k : Nat, k ≤ l.length ∧ i = .int .i64 k ∧ allR k (eqAt (eqTr n) l m) = true ∧ Below w.heap.size w wr) (fun i _ => l.length - (intOf i).toNat)
    case atStart => exact ⟨0, Nat.zero_le _, rfl, rfl, bel⟩
    case round =>
      obtain ⟨k, hk, rfl, hall, hbr⟩ := hrel
      have Hall := Lib.hid hall
      clear hall
      by_cases hlt : k < l.length
      · obtain ⟨b, o, rfl, -, hbl, hcell⟩ := hA (by omega)
        obtain ⟨b', o', rfl, -, hbl', hcell'⟩ := hB (by have := Hlen.out; omega)
        obtain ⟨d, hd⟩ := exists_at hlt
        obtain ⟨d', hd'⟩ := exists_at (show k < m.length by have := Hlen.out; omega)
        obtain ⟨es, -, hcs, hC⟩ := hcell k d hd
        obtain ⟨es', -, hcs', hD⟩ := hcell' k d' hd'
        obtain ⟨eA4, ec4, eA5, ec5, rfl, ea0, ea2, ea3⟩ := hC.flat
        obtain ⟨fA4, fc4, fA5, fc5, rfl, fa0, fa2, fa3⟩ := hD.flat
        have hc0 := (hbr.cell (p := ⟨b, o + k * 6 + 0, none⟩) (by simp; omega)).trans (hcs 0 (by omega))
        simp at hc0
        have hc1 := (hbr.cell (p := ⟨b, o + k * 6 + 1, none⟩) (by simp; omega)).trans (hcs 1 (by omega))
        simp at hc1
        have hc2 := (hbr.cell (p := ⟨b, o + k * 6 + 2, none⟩) (by simp; omega)).trans (hcs 2 (by omega))
        simp at hc2
        have hc3 := (hbr.cell (p := ⟨b, o + k * 6 + 3, none⟩) (by simp; omega)).trans (hcs 3 (by omega))
        simp at hc3
        have hc4 := (hbr.cell (p := ⟨b, o + k * 6 + 4, none⟩) (by simp; omega)).trans (hcs 4 (by omega))
        simp at hc4
        have hc5 := (hbr.cell (p := ⟨b, o + k * 6 + 5, none⟩) (by simp; omega)).trans (hcs 5 (by omega))
        simp at hc5
        have hd0 := (hbr.cell (p := ⟨b', o' + k * 6 + 0, none⟩) (by simp; omega)).trans (hcs' 0 (by omega))
        simp at hd0
        have hd1 := (hbr.cell (p := ⟨b', o' + k * 6 + 1, none⟩) (by simp; omega)).trans (hcs' 1 (by omega))
        simp at hd1
        have hd2 := (hbr.cell (p := ⟨b', o' + k * 6 + 2, none⟩) (by simp; omega)).trans (hcs' 2 (by omega))
        simp at hd2
        have hd3 := (hbr.cell (p := ⟨b', o' + k * 6 + 3, none⟩) (by simp; omega)).trans (hcs' 3 (by omega))
        simp at hd3
        have hd4 := (hbr.cell (p := ⟨b', o' + k * 6 + 4, none⟩) (by simp; omega)).trans (hcs' 4 (by omega))
        simp at hd4
        have hd5 := (hbr.cell (p := ⟨b', o' + k * 6 + 5, none⟩) (by simp; omega)).trans (hcs' 5 (by omega))
        simp at hd5
        have hbr1 := Nat.lt_of_lt_of_le hbl hbr.size
        have hbr2 := Nat.lt_of_lt_of_le hbl' hbr.size
        have hbs := hbr.size
        have hk0 : (0 : Int) ≤ k := by omega
        have hk1 : (k : Int) < l.length := by omega
        have hk2 : (k : Int) < m.length := by have := Hlen.out; omega
        have He := Lib.hid (eqAt_eq (eqTr n) l m k d d' hd hd')
        clear hcs hcell hA hcs' hcell' hB hd hd'
        rcases q0 : eqTr n d d' with _ | _
        · have Hbad := Lib.hid (show eqAt (eqTr n) l m k = false by rw [He.out, q0])
          go_wp2_with (go_at_call 29; refine (ih d d' _ _ _ _ _ (hC.now bel) (hD.now bel)).mono ?_; rintro e w1 ⟨rfl, hb⟩; (first | (have hcu2 := Cum.join hcu hb; (try clear hcu); (try clear hc); (try clear hfz); (try clear hsz); (try clear hs0); (try clear hs1); (try clear hs2); (try clear hs3); (try clear hs4); ) | have hcu2 := Cum.mk hb); have hcu := hcu2; clear hcu2; obtain ⟨hc, hfz⟩ := bcell hcu.h; have hsz := hcu.h.size; (try simp at hsz); (try have hs0 := lt_of_succ_le hsz); (try (have hs1 := lt_pred hsz; (try (have hs2 := lt_pred hs1; (try (have hs3 := lt_pred hs2; (try have hs4 := lt_pred hs3))))))))
          have Hf := eqL_bad (eqTr n) l m k hlt Hbad.out
          go_ret
          exact ⟨ret_bool Hf.symm, bel⟩
        · have Hn := Lib.hid (show allR (k + 1) (eqAt (eqTr n) l m) = true by rw [allR_succ, Hall.out, He.out, q0]; rfl)
          go_wp2_with (go_at_call 29; refine (ih d d' _ _ _ _ _ (hC.now bel) (hD.now bel)).mono ?_; rintro e w1 ⟨rfl, hb⟩; (first | (have hcu2 := Cum.join hcu hb; (try clear hcu); (try clear hc); (try clear hfz); (try clear hsz); (try clear hs0); (try clear hs1); (try clear hs2); (try clear hs3); (try clear hs4); ) | have hcu2 := Cum.mk hb); have hcu := hcu2; clear hcu2; obtain ⟨hc, hfz⟩ := bcell hcu.h; have hsz := hcu.h.size; (try simp at hsz); (try have hs0 := lt_of_succ_le hsz); (try (have hs1 := lt_pred hsz; (try (have hs2 := lt_pred hs1; (try (have hs3 := lt_pred hs2; (try have hs4 := lt_pred hs3))))))))
          go_roundw
          case rel => exact ⟨k + 1, by omega, by go_num, Hn.out, bel⟩
          case measure => simp [intOf]; omega
      · obtain rfl : k = l.length := by omega
        clear hA hB
        go_wp2_with fail
        go_ret
        exact ⟨ret_bool (eqL_all (eqTr n) l m Hlen.out Hall.out).symm, bel⟩
  · have hz : ((l.length : Int) != m.length) = true := bne_iff_ne.2 (by omega)
    go_enter Tryz.func55, Tryz.ntmps55
    go_wp2_with fail
    go_ret
    exact ⟨ret_bool (eqL_len (eqTr n) l m hlen).symm, bel⟩
set_option maxHeartbeats 4000000 in
theorem of_sameI (n : Nat) (ih : T_sameI n) : T_sameI (n + 1) := by
  intro a b ca cb w lo lo' h h'
  obtain ⟨v4, v5, rfl, a0, a2, a3, a4, a5⟩ := C_Tree.out h
  obtain ⟨A4, c4, rfl⟩ := a4.form
  obtain ⟨A5, c5, rfl⟩ := a5.form
  obtain ⟨zv4, zv5, rfl, za0, za2, za3, za4, za5⟩ := C_Tree.out h'
  obtain ⟨zA4, zc4, rfl⟩ := za4.form
  obtain ⟨zA5, zc5, rfl⟩ := za5.form
  have Hf := Lib.hid (eqTr_succ n a b)
  clear h h'
  rcases q1 : (a.kind == b.kind) with _ | _
  · rw [q1] at Hf; simp only [Bool.false_and] at Hf
    go_enter Tryz.func29, Tryz.ntmps29
    go_wp2_with fail
    go_ret
    exact ⟨ret_bool Hf.out.symm, bel⟩
  rcases q2 : (a.flag == b.flag) with _ | _
  · rw [q1, q2] at Hf; simp only [Bool.false_and, Bool.and_false] at Hf
    go_enter Tryz.func29, Tryz.ntmps29
    go_wp2_with fail
    go_ret
    exact ⟨ret_bool Hf.out.symm, bel⟩
  rcases q3 : (a.num == b.num) with _ | _
  · rw [q1, q2, q3] at Hf; simp only [Bool.false_and, Bool.and_false] at Hf
    go_enter Tryz.func29, Tryz.ntmps29
    go_wp2_with fail
    go_ret
    exact ⟨ret_bool Hf.out.symm, bel⟩
  rcases q4 : (a.text.toList == b.text.toList) with _ | _
  · rw [q1, q2, q3, q4] at Hf; simp only [Bool.false_and, Bool.and_false] at Hf
    go_enter Tryz.func29, Tryz.ntmps29
    go_wp2_with fail
    go_ret
    exact ⟨ret_bool Hf.out.symm, bel⟩
  rcases q5 : eqL eqStr a.keys b.keys with _ | _
  · rw [q1, q2, q3, q4, q5] at Hf; simp only [Bool.false_and, Bool.and_false] at Hf
    have HE := Lib.hid (fun (w' : World) (hb : Below w.heap.size w w') => c_Equal_Str a.keys b.keys _ _ w' lo lo' (a4.now hb) (za4.now hb))
    rw [q5] at HE
    go_enter Tryz.func29, Tryz.ntmps29
    go_wp2_with (go_at_call 54; refine (HE.out _ bel).mono ?_; rintro e w1 ⟨rfl, hb⟩; (first | (have hcu2 := Cum.join hcu hb; (try clear hcu); (try clear hc); (try clear hfz); (try clear hsz); (try clear hs0); (try clear hs1); (try clear hs2); (try clear hs3); (try clear hs4); ) | have hcu2 := Cum.mk hb); have hcu := hcu2; clear hcu2; obtain ⟨hc, hfz⟩ := bcell hcu.h; have hsz := hcu.h.size; (try simp at hsz); (try have hs0 := lt_of_succ_le hsz); (try (have hs1 := lt_pred hsz; (try (have hs2 := lt_pred hs1; (try (have hs3 := lt_pred hs2; (try have hs4 := lt_pred hs3))))))))
    go_ret
    exact ⟨ret_bool Hf.out.symm, bel⟩
  · rw [q1, q2, q3, q4, q5] at Hf; simp only [Bool.true_and] at Hf
    have HE := Lib.hid (fun (w' : World) (hb : Below w.heap.size w w') => c_Equal_Str a.keys b.keys _ _ w' lo lo' (a4.now hb) (za4.now hb))
    have HF := Lib.hid (fun (w' : World) (hb : Below w.heap.size w w') => c_EqualFunc_Tree n ih a.kids b.kids _ _ w' lo lo' (a5.now hb) (za5.now hb))
    rw [q5] at HE
    obtain ⟨z, hz⟩ : ∃ z, z = eqL (eqTr n) a.kids b.kids := ⟨_, rfl⟩
    rw [← hz] at Hf HF
    clear hz
    go_enter Tryz.func29, Tryz.ntmps29
    go_wp2_with (first | (go_at_call 54; refine (HE.out _ bel).mono ?_; rintro e w1 ⟨rfl, hb⟩; (first | (have hcu2 := Cum.join hcu hb; (try clear hcu); (try clear hc); (try clear hfz); (try clear hsz); (try clear hs0); (try clear hs1); (try clear hs2); (try clear hs3); (try clear hs4); ) | have hcu2 := Cum.mk hb); have hcu := hcu2; clear hcu2; obtain ⟨hc, hfz⟩ := bcell hcu.h; have hsz := hcu.h.size; (try simp at hsz); (try have hs0 := lt_of_succ_le hsz); (try (have hs1 := lt_pred hsz; (try (have hs2 := lt_pred hs1; (try (have hs3 := lt_pred hs2; (try have hs4 := lt_pred hs3)))))))) | (go_at_call 55; refine (HF.out _ bel).mono ?_; rintro e w1 ⟨rfl, hb⟩; (first | (have hcu2 := Cum.join hcu hb; (try clear hcu); (try clear hc); (try clear hfz); (try clear hsz); (try clear hs0); (try clear hs1); (try clear hs2); (try clear hs3); (try clear hs4); ) | have hcu2 := Cum.mk hb); have hcu := hcu2; clear hcu2; obtain ⟨hc, hfz⟩ := bcell hcu.h; have hsz := hcu.h.size; (try simp at hsz); (try have hs0 := lt_of_succ_le hsz); (try (have hs1 := lt_pred hsz; (try (have hs2 := lt_pred hs1; (try (have hs3 := lt_pred hs2; (try have hs4 := lt_pred hs3)))))))))
    go_ret
    exact ⟨ret_bool Hf.out.symm, bel⟩
theorem all_sameI : ∀ n, T_sameI n
  | 0 => fun _ _ _ _ _ _ _ h _ => (C_Tree.none h).elim
  | n + 1 => of_sameI n (all_sameI n)
def T_sameS (n : Nat) : Prop := ∀ (a b : TreeD) (ca cb : List Value) (w : World) (lo lo' : Nat), C_Tree n lo w.heap.size w a ca → C_Tree n lo' w.heap.size w b cb →
    Calls Tryz.prog 25 #[.agg ca.toArray, .agg cb.toArray] w fun e w' => e = .returned (.bool (eqTr n a b)) ∧ Below w.heap.size w w'
theorem ne_of {α : Type} [BEq α] {x y : α} {q : Bool} (h : (x == y) = q) : (x != y) = !q := by unfold bne; rw [h]
set_option maxHeartbeats 8000000 in
set_option maxRecDepth 10000 in
theorem of_sameS (n : Nat) (ih : T_sameS n) : T_sameS (n + 1) := by
  intro a b ca cb w lo lo' h h'
  obtain ⟨v4, v5, rfl, a0, a2, a3, a4, a5⟩ := C_Tree.out h
  obtain ⟨zv4, zv5, rfl, za0, za2, za3, za4, za5⟩ := C_Tree.out h'
  obtain ⟨A4, c4, rfl, hlc, hcc, hA⟩ := a4
  obtain ⟨A5, c5, rfl, hlc5, hcc5, hA5⟩ := a5
  obtain ⟨zA4, zc4, rfl, zlc, zcc, hB⟩ := za4
  obtain ⟨zA5, zc5, rfl, zlc5, zcc5, hB5⟩ := za5
  have Hf := Lib.hid (eqTr_succ n a b)
  clear h h'
  rcases q1 : (a.kind == b.kind) with _ | _
  · rw [q1] at Hf; simp only [Bool.false_and] at Hf
    have n1 := ne_of q1
    simp only [Bool.not_false] at n1
    go_enter Tryz.func25, Tryz.ntmps25
    go_wp2_with fail
    go_ret
    exact ⟨ret_bool Hf.out.symm, bel⟩
  have n1 := ne_of q1
  simp only [Bool.not_true] at n1
  rcases q2 : (a.flag == b.flag) with _ | _
  · rw [q1, q2] at Hf; simp only [Bool.false_and, Bool.and_false] at Hf
    have n2 := ne_of q2
    simp only [Bool.not_false] at n2
    go_enter Tryz.func25, Tryz.ntmps25
    go_wp2_with fail
    go_ret
    exact ⟨ret_bool Hf.out.symm, bel⟩
  have n2 := ne_of q2
  simp only [Bool.not_true] at n2
  rcases q3 : (a.num == b.num) with _ | _
  · rw [q1, q2, q3] at Hf; simp only [Bool.false_and, Bool.and_false] at Hf
    have n3 := ne_of q3
    simp only [Bool.not_false] at n3
    go_enter Tryz.func25, Tryz.ntmps25
    go_wp2_with fail
    go_ret
    exact ⟨ret_bool Hf.out.symm, bel⟩
  have n3 := ne_of q3
  simp only [Bool.not_true] at n3
  rcases q4 : (a.text.toList == b.text.toList) with _ | _
  · rw [q1, q2, q3, q4] at Hf; simp only [Bool.false_and, Bool.and_false] at Hf
    have n4 := ne_of q4
    simp only [Bool.not_false] at n4
    go_enter Tryz.func25, Tryz.ntmps25
    go_wp2_with fail
    go_ret
    exact ⟨ret_bool Hf.out.symm, bel⟩
  have n4 := ne_of q4
  simp only [Bool.not_true] at n4
  by_cases hk : a.keys.length = b.keys.length
  rotate_left
  · have Hx := Lib.hid (eqL_len eqStr a.keys b.keys hk)
    have lk : ((a.keys.length : Int) != b.keys.length) = true := bne_iff_ne.2 (by omega)
    have He := Lib.hid (show eqTr (n + 1) a b = false by rw [eqTr_succ, Hx.out]; simp only [Bool.and_false, Bool.false_and])
    clear Hf hk
    go_enter Tryz.func25, Tryz.ntmps25
    go_wp2_with fail
    go_ret
    exact ⟨ret_bool He.out.symm, bel⟩
  have lk : ((a.keys.length : Int) != b.keys.length) = false := bne_eq_false_iff_eq.2 (by omega)
  have Lk := Lib.hid hk
  clear hk
  by_cases hd : a.kids.length = b.kids.length
  rotate_left
  · have Hx := Lib.hid (eqL_len (eqTr n) a.kids b.kids hd)
    have ld : ((a.kids.length : Int) != b.kids.length) = true := bne_iff_ne.2 (by omega)
    have He := Lib.hid (show eqTr (n + 1) a b = false by rw [eqTr_succ, Hx.out]; simp only [Bool.and_false])
    clear Hf hd
    go_enter Tryz.func25, Tryz.ntmps25
    go_wp2_with fail
    go_ret
    exact ⟨ret_bool He.out.symm, bel⟩
  have ld : ((a.kids.length : Int) != b.kids.length) = false := bne_eq_false_iff_eq.2 (by omega)
  have Ld := Lib.hid hd
  clear hd
  rw [q1, q2, q3, q4] at Hf
  simp only [Bool.true_and] at Hf
  go_enter Tryz.func25, Tryz.ntmps25
  go_wp2_with fail
  go_loopw [5] (fun v wr => ∃ k : Nat, k ≤ a.keys.length ∧ v = .int .i64 k ∧ allR k (eqAt eqStr a.keys b.keys) = true ∧ wr.heap[w.heap.size]? = some (.cells #[.int .i64 a.kind, .bool a.flag, .int .i64 a.num, .string a.text, .slice A4 a.keys.length c4, .slice A5 a.kids.length c5] 27 (0, 0)) ∧ wr.heap[w.heap.size + 1]? = some (.cells #[.int .i64 b.kind, .bool b.flag, .int .i64 b.num, .string b.text, .slice zA4 b.keys.length zc4, .slice zA5 b.kids.length zc5] 27 (0, 0)) ∧ Below w.heap.size w wr) (fun v _ => a.keys.length - (intOf v).toNat)
  case atStart => exact ⟨0, Nat.zero_le _, rfl, rfl, (Below.heap_alloc _ _ _ (by simp)).trans (heap_at rfl), heap_at (by simp), bel⟩
  case round =>
    obtain ⟨k, hk, rfl, hall, hT, hK, hbr⟩ := hrel
    have Hall := Lib.hid hall
    have HT := Lib.hid hT
    have HK := Lib.hid hK
    clear hall hT hK
    obtain ⟨x0, x1, x2, x3, x4, x5, xf⟩ := row6 HT.out
    obtain ⟨y0, y1, y2, y3, y4, y5, yf⟩ := row6 HK.out
    have hl1 := row_lt HT.out
    have hl2 := row_lt HK.out
    by_cases hlt : k < a.keys.length
    · obtain ⟨p, o, rfl, -, hbl, hcell⟩ := hA (by omega)
      obtain ⟨p', o', rfl, -, hbl', hcell'⟩ := hB (by have := Lk.out; omega)
      obtain ⟨d, hd⟩ := exists_at hlt
      obtain ⟨d', hd'⟩ := exists_at (show k < b.keys.length by have := Lk.out; omega)
      obtain ⟨es, -, hcs, rfl, hz1⟩ := hcell k d hd
      obtain ⟨es', -, hcs', rfl, hz2⟩ := hcell' k d' hd'
      have hc0 := (hbr.cell (p := ⟨p, o + k * 1 + 0, none⟩) hbl).trans (hcs 0 (by omega))
      have hd0 := (hbr.cell (p := ⟨p', o' + k * 1 + 0, none⟩) hbl').trans (hcs' 0 (by omega))
      simp at hc0 hd0
      have hbr1 := Nat.lt_of_lt_of_le hbl hbr.size
      have hbr2 := Nat.lt_of_lt_of_le hbl' hbr.size
      have hbs := hbr.size
      have hk0 : (0 : Int) ≤ k := by omega
      have hk1 : (k : Int) < a.keys.length := by omega
      have hk2 : (k : Int) < b.keys.length := by have := Lk.out; omega
      have He := Lib.hid (eqAt_eq eqStr a.keys b.keys k d d' hd hd')
      clear hcs hcell hA hcs' hcell' hB hd hd' hA5 hB5
      rcases q0 : (d.toList == d'.toList) with _ | _
      · have Hbad := Lib.hid (show eqAt eqStr a.keys b.keys k = false by rw [He.out]; exact q0)
        have m1 := ne_of q0
        simp only [Bool.not_false] at m1
        go_wp2_with fail
        refine wp_region_det 11 (by kernel_rfl) (by kernel_rfl) (by decide) ?_
        apply Exists.intro
        refine And.intro ?_ ?_
        · (intro W hW; (try simp only [Act.put, List.setIfInBounds_toArray, List.set_cons_zero, List.set_cons_succ]); first | (go_wp2_with fail; exact ⟨rfl, rfl, Below.refl _ _⟩))
        apply Exists.intro
        refine And.intro ?_ ?_
        · (intro W hW; (try simp only [Act.put, List.setIfInBounds_toArray, List.set_cons_zero, List.set_cons_succ]); first | (obtain ⟨hcW, hfW⟩ := bcell hW; have hsW := hW.size; (try simp at hsW); (try have hsW0 := lt_of_succ_le hsW); (try (have hsW1 := lt_pred hsW; (try (have hsW2 := lt_pred hsW1)))); go_wp2_with fail; exact ⟨rfl, rfl, Below.refl _ _⟩))
        apply Exists.intro
        refine And.intro ?_ ?_
        · (intro W hW; (try simp only [Act.put, List.setIfInBounds_toArray, List.set_cons_zero, List.set_cons_succ]); first | (go_wp2_with fail; exact ⟨rfl, rfl, Below.refl _ _⟩))
        apply Exists.intro
        refine And.intro ?_ ?_
        · (intro W hW; (try simp only [Act.put, List.setIfInBounds_toArray, List.set_cons_zero, List.set_cons_succ]); first | (go_wp2_with fail; exact ⟨rfl, rfl, Below.refl _ _⟩))
        apply Exists.intro
        refine And.intro ?_ ?_
        · (intro W hW; (try simp only [Act.put, List.setIfInBounds_toArray, List.set_cons_zero, List.set_cons_succ]); first | (obtain ⟨hcW, hfW⟩ := bcell hW; have hsW := hW.size; (try simp at hsW); (try have hsW0 := lt_of_succ_le hsW); (try (have hsW1 := lt_pred hsW; (try (have hsW2 := lt_pred hsW1)))); go_wp2_with fail; exact ⟨rfl, rfl, Below.refl _ _⟩))
        apply Exists.intro
        refine And.intro ?_ ?_
        · (intro W hW; (try simp only [Act.put, List.setIfInBounds_toArray, List.set_cons_zero, List.set_cons_succ]); first | (go_wp2_with fail; exact ⟨rfl, rfl, Below.refl _ _⟩))
        apply Exists.intro
        refine And.intro ?_ ?_
        · (intro W hW; (try simp only [Act.put, List.setIfInBounds_toArray, List.set_cons_zero, List.set_cons_succ]); first | (obtain ⟨hcW, hfW⟩ := bcell hW; have hsW := hW.size; (try simp at hsW); (try have hsW0 := lt_of_succ_le hsW); (try (have hsW1 := lt_pred hsW; (try (have hsW2 := lt_pred hsW1)))); go_wp2_with fail; exact ⟨rfl, rfl, Below.refl _ _⟩))
        apply Exists.intro
        refine And.intro ?_ ?_
        · (intro W hW; (try simp only [Act.put, List.setIfInBounds_toArray, List.set_cons_zero, List.set_cons_succ]); first | (go_wp2_with fail; exact ⟨rfl, rfl, Below.refl _ _⟩))
        apply Exists.intro
        refine And.intro ?_ ?_
        · (intro W hW; (try simp only [Act.put, List.setIfInBounds_toArray, List.set_cons_zero, List.set_cons_succ]); first | (go_wp2_with fail; exact ⟨rfl, rfl, Below.refl _ _⟩))
        apply Exists.intro
        refine And.intro ?_ ?_
        · (intro W hW; (try simp only [Act.put, List.setIfInBounds_toArray, List.set_cons_zero, List.set_cons_succ]); first | (obtain ⟨hcW, hfW⟩ := bcell hW; have hsW := hW.size; (try simp at hsW); (try have hsW0 := lt_of_succ_le hsW); (try (have hsW1 := lt_pred hsW; (try (have hsW2 := lt_pred hsW1)))); go_wp2_with fail; exact ⟨rfl, rfl, Below.refl _ _⟩))
        apply Exists.intro
        refine And.intro ?_ ?_
        · (intro W hW; (try simp only [Act.put, List.setIfInBounds_toArray, List.set_cons_zero, List.set_cons_succ]); first | (go_wp2_with fail; exact ⟨rfl, rfl, Below.refl _ _⟩))
        intro w1 hb
        (first | (have hcu2 := Cum.join hcu hb; (try clear hcu); (try clear hc); (try clear hfz); (try clear hsz); (try clear hs0); (try clear hs1); (try clear hs2); (try clear hs3); (try clear hs4); ) | have hcu2 := Cum.mk hb); have hcu := hcu2; clear hcu2; obtain ⟨hc, hfz⟩ := bcell hcu.h; have hsz := hcu.h.size; (try simp at hsz); (try have hs0 := lt_of_succ_le hsz); (try (have hs1 := lt_pred hsz; (try (have hs2 := lt_pred hs1; (try (have hs3 := lt_pred hs2; (try have hs4 := lt_pred hs3)))))))
        (try simp only [Act.put, List.setIfInBounds_toArray, List.set_cons_zero, List.set_cons_succ])
        (try simp only [List.drop_succ_cons, List.drop_nil])
        have Hx := Lib.hid (show eqTr (n + 1) a b = false by rw [Hf.out, eqL_bad eqStr a.keys b.keys k hlt Hbad.out]; rfl)
        go_wp2_with fail
        go_ret
        exact ⟨ret_bool Hx.out.symm, bel⟩
      · have Hn := Lib.hid (show allR (k + 1) (eqAt eqStr a.keys b.keys) = true by rw [allR_succ, Hall.out, He.out]; exact q0)
        have m1 := ne_of q0
        simp only [Bool.not_true] at m1
        go_wp2_with fail
        refine wp_region_det 11 (by kernel_rfl) (by kernel_rfl) (by decide) ?_
        apply Exists.intro
        refine And.intro ?_ ?_
        · (intro W hW; (try simp only [Act.put, List.setIfInBounds_toArray, List.set_cons_zero, List.set_cons_succ]); first | (go_wp2_with fail; exact ⟨rfl, rfl, Below.refl _ _⟩))
        apply Exists.intro
        refine And.intro ?_ ?_
        · (intro W hW; (try simp only [Act.put, List.setIfInBounds_toArray, List.set_cons_zero, List.set_cons_succ]); first | (obtain ⟨hcW, hfW⟩ := bcell hW; have hsW := hW.size; (try simp at hsW); (try have hsW0 := lt_of_succ_le hsW); (try (have hsW1 := lt_pred hsW; (try (have hsW2 := lt_pred hsW1)))); go_wp2_with fail; exact ⟨rfl, rfl, Below.refl _ _⟩))
        apply Exists.intro
        refine And.intro ?_ ?_
        · (intro W hW; (try simp only [Act.put, List.setIfInBounds_toArray, List.set_cons_zero, List.set_cons_succ]); first | (go_wp2_with fail; exact ⟨rfl, rfl, Below.refl _ _⟩))
        apply Exists.intro
        refine And.intro ?_ ?_
        · (intro W hW; (try simp only [Act.put, List.setIfInBounds_toArray, List.set_cons_zero, List.set_cons_succ]); first | (go_wp2_with fail; exact ⟨rfl, rfl, Below.refl _ _⟩))
        apply Exists.intro
        refine And.intro ?_ ?_
        · (intro W hW; (try simp only [Act.put, List.setIfInBounds_toArray, List.set_cons_zero, List.set_cons_succ]); first | (obtain ⟨hcW, hfW⟩ := bcell hW; have hsW := hW.size; (try simp at hsW); (try have hsW0 := lt_of_succ_le hsW); (try (have hsW1 := lt_pred hsW; (try (have hsW2 := lt_pred hsW1)))); go_wp2_with fail; exact ⟨rfl, rfl, Below.refl _ _⟩))
        apply Exists.intro
        refine And.intro ?_ ?_
        · (intro W hW; (try simp only [Act.put, List.setIfInBounds_toArray, List.set_cons_zero, List.set_cons_succ]); first | (go_wp2_with fail; exact ⟨rfl, rfl, Below.refl _ _⟩))
        apply Exists.intro
        refine And.intro ?_ ?_
        · (intro W hW; (try simp only [Act.put, List.setIfInBounds_toArray, List.set_cons_zero, List.set_cons_succ]); first | (obtain ⟨hcW, hfW⟩ := bcell hW; have hsW := hW.size; (try simp at hsW); (try have hsW0 := lt_of_succ_le hsW); (try (have hsW1 := lt_pred hsW; (try (have hsW2 := lt_pred hsW1)))); go_wp2_with fail; exact ⟨rfl, rfl, Below.refl _ _⟩))
        apply Exists.intro
        refine And.intro ?_ ?_
        · (intro W hW; (try simp only [Act.put, List.setIfInBounds_toArray, List.set_cons_zero, List.set_cons_succ]); first | (go_wp2_with fail; exact ⟨rfl, rfl, Below.refl _ _⟩))
        apply Exists.intro
        refine And.intro ?_ ?_
        · (intro W hW; (try simp only [Act.put, List.setIfInBounds_toArray, List.set_cons_zero, List.set_cons_succ]); first | (go_wp2_with fail; exact ⟨rfl, rfl, Below.refl _ _⟩))
        apply Exists.intro
        refine And.intro ?_ ?_
        · (intro W hW; (try simp only [Act.put, List.setIfInBounds_toArray, List.set_cons_zero, List.set_cons_succ]); first | (obtain ⟨hcW, hfW⟩ := bcell hW; have hsW := hW.size; (try simp at hsW); (try have hsW0 := lt_of_succ_le hsW); (try (have hsW1 := lt_pred hsW; (try (have hsW2 := lt_pred hsW1)))); go_wp2_with fail; exact ⟨rfl, rfl, Below.refl _ _⟩))
        apply Exists.intro
        refine And.intro ?_ ?_
        · (intro W hW; (try simp only [Act.put, List.setIfInBounds_toArray, List.set_cons_zero, List.set_cons_succ]); first | (go_wp2_with fail; exact ⟨rfl, rfl, Below.refl _ _⟩))
        intro wq hbwq
        (try simp only [Act.put, List.setIfInBounds_toArray, List.set_cons_zero, List.set_cons_succ])
        (try simp only [List.drop_succ_cons, List.drop_nil])
        have HTq := Lib.hid ((hbwq.block _ hl1).trans HT.out)
        have HKq := Lib.hid ((hbwq.block _ hl2).trans HK.out)
        have HBq := Lib.hid (hbr.trans (hbwq.mono hbr.size))
        clear x0 x1 x2 x3 x4 x5 xf y0 y1 y2 y3 y4 y5 yf
        go_wp2_with fail
        go_roundw
        case rel => exact ⟨k + 1, by omega, by go_num, Hn.out, HTq.out, HKq.out, HBq.out⟩
        case measure => simp [intOf]; omega
    · obtain rfl : k = a.keys.length := by omega
      have HKs := Lib.hid (eqL_all eqStr a.keys b.keys Lk.out Hall.out)
      have hke : decide (a.keys.length < a.keys.length) = false := decide_eq_false (Nat.lt_irrefl _)
      clear hA hB Hall
      rw [HKs.out] at Hf
      simp only [Bool.true_and] at Hf
      go_wp2_with fail
      go_loopw [6] (fun v wr => ∃ k : Nat, k ≤ a.kids.length ∧ v = .int .i64 k ∧ allR k (eqAt (eqTr n) a.kids b.kids) = true ∧ wr.heap[w.heap.size]? = some (.cells #[.int .i64 a.kind, .bool a.flag, .int .i64 a.num, .string a.text, .slice A4 a.keys.length c4, .slice A5 a.kids.length c5] 27 (0, 0)) ∧ wr.heap[w.heap.size + 1]? = some (.cells #[.int .i64 b.kind, .bool b.flag, .int .i64 b.num, .string b.text, .slice zA4 b.keys.length zc4, .slice zA5 b.kids.length zc5] 27 (0, 0)) ∧ Below w.heap.size w wr) (fun v _ => a.kids.length - (intOf v).toNat)
      case atStart => exact ⟨0, Nat.zero_le _, rfl, rfl, HT.out, HK.out, hbr⟩
      case round =>
        have hb0 := hbr
        clear hbr hl1 hl2 HT HK x0 x1 x2 x3 x4 x5 xf y0 y1 y2 y3 y4 y5 yf
        obtain ⟨k, hk, rfl, hall, hT, hK, hbr⟩ := hrel
        have Hall := Lib.hid hall
        have HT := Lib.hid hT
        have HK := Lib.hid hK
        clear hall hT hK hb0
        obtain ⟨x0, x1, x2, x3, x4, x5, xf⟩ := row6 HT.out
        obtain ⟨y0, y1, y2, y3, y4, y5, yf⟩ := row6 HK.out
        have hl1 := row_lt HT.out
        have hl2 := row_lt HK.out
        by_cases hlt : k < a.kids.length
        · obtain ⟨p, o, rfl, -, hbl, hcell⟩ := hA5 (by omega)
          obtain ⟨p', o', rfl, -, hbl', hcell'⟩ := hB5 (by have := Ld.out; omega)
          obtain ⟨d, hd⟩ := exists_at hlt
          obtain ⟨d', hd'⟩ := exists_at (show k < b.kids.length by have := Ld.out; omega)
          obtain ⟨es, -, hcs, hC⟩ := hcell k d hd
          obtain ⟨es', -, hcs', hD⟩ := hcell' k d' hd'
          obtain ⟨eA4, ec4, eA5, ec5, rfl, ea0, ea2, ea3⟩ := hC.flat
          obtain ⟨fA4, fc4, fA5, fc5, rfl, fa0, fa2, fa3⟩ := hD.flat
          have hc0 := (hbr.cell (p := ⟨p, o + k * 6 + 0, none⟩) (by simp; omega)).trans (hcs 0 (by omega))
          simp at hc0
          have hc1 := (hbr.cell (p := ⟨p, o + k * 6 + 1, none⟩) (by simp; omega)).trans (hcs 1 (by omega))
          simp at hc1
          have hc2 := (hbr.cell (p := ⟨p, o + k * 6 + 2, none⟩) (by simp; omega)).trans (hcs 2 (by omega))
          simp at hc2
          have hc3 := (hbr.cell (p := ⟨p, o + k * 6 + 3, none⟩) (by simp; omega)).trans (hcs 3 (by omega))
          simp at hc3
          have hc4 := (hbr.cell (p := ⟨p, o + k * 6 + 4, none⟩) (by simp; omega)).trans (hcs 4 (by omega))
          simp at hc4
          have hc5 := (hbr.cell (p := ⟨p, o + k * 6 + 5, none⟩) (by simp; omega)).trans (hcs 5 (by omega))
          simp at hc5
          have hd0 := (hbr.cell (p := ⟨p', o' + k * 6 + 0, none⟩) (by simp; omega)).trans (hcs' 0 (by omega))
          simp at hd0
          have hd1 := (hbr.cell (p := ⟨p', o' + k * 6 + 1, none⟩) (by simp; omega)).trans (hcs' 1 (by omega))
          simp at hd1
          have hd2 := (hbr.cell (p := ⟨p', o' + k * 6 + 2, none⟩) (by simp; omega)).trans (hcs' 2 (by omega))
          simp at hd2
          have hd3 := (hbr.cell (p := ⟨p', o' + k * 6 + 3, none⟩) (by simp; omega)).trans (hcs' 3 (by omega))
          simp at hd3
          have hd4 := (hbr.cell (p := ⟨p', o' + k * 6 + 4, none⟩) (by simp; omega)).trans (hcs' 4 (by omega))
          simp at hd4
          have hd5 := (hbr.cell (p := ⟨p', o' + k * 6 + 5, none⟩) (by simp; omega)).trans (hcs' 5 (by omega))
          simp at hd5
          have hbr1 := Nat.lt_of_lt_of_le hbl hbr.size
          have hbr2 := Nat.lt_of_lt_of_le hbl' hbr.size
          have hbs := hbr.size
          have hk0 : (0 : Int) ≤ k := by omega
          have hk1 : (k : Int) < a.kids.length := by omega
          have hk2 : (k : Int) < b.kids.length := by have := Ld.out; omega
          have He := Lib.hid (eqAt_eq (eqTr n) a.kids b.kids k d d' hd hd')
          have HC := Lib.hid hC
          have HD := Lib.hid hD
          clear hcs hcell hA5 hcs' hcell' hB5 hd hd' hC hD
          rcases q0 : eqTr n d d' with _ | _
          · have Hbad := Lib.hid (show eqAt (eqTr n) a.kids b.kids k = false by rw [He.out, q0])
            have Hx := Lib.hid (show eqTr (n + 1) a b = false by rw [Hf.out]; exact eqL_bad (eqTr n) a.kids b.kids k hlt Hbad.out)
            go_wp2_with fail
            go_region_held3 (fun w' => Below (wr).heap.size (wr) w' ∧ (∀ xb xo, xb < (wr).heap.size → w'.cell? ⟨xb, xo, none⟩ = (wr).cell? ⟨xb, xo, none⟩)) (first | exact keep_drew _ | exact keep_ext (by assumption) (by assumption) | exact keep_same (by assumption) | exact keep_alloc (by assumption) _) (first | (go_at_call 25; refine (ih d d' _ _ _ _ _ (HC.out.now (ext_trans hbr (by first | (with_reducible exact Below.refl _ _) | exact (keep_same (by assumption)).1))) (HD.out.now (ext_trans hbr (by first | (with_reducible exact Below.refl _ _) | exact (keep_same (by assumption)).1)))).mono ?_; rintro e w9 ⟨rfl, hb9⟩))
            (have hb := held_step (by assumption); (first | (have hcu2 := Cum.join hcu hb; (try clear hcu); (try clear hc); (try clear hfz); (try clear hsz); (try clear hs0); (try clear hs1); (try clear hs2); (try clear hs3); (try clear hs4); ) | have hcu2 := Cum.mk hb); have hcu := hcu2; clear hcu2; obtain ⟨hc, hfz⟩ := bcell hcu.h; have hsz := hcu.h.size; (try simp at hsz); (try have hs0 := lt_of_succ_le hsz); (try (have hs1 := lt_pred hsz; (try (have hs2 := lt_pred hs1; (try (have hs3 := lt_pred hs2; (try have hs4 := lt_pred hs3))))))))
            go_wp2_with fail
            go_ret
            exact ⟨ret_bool Hx.out.symm, bel⟩
          · have Hn := Lib.hid (show allR (k + 1) (eqAt (eqTr n) a.kids b.kids) = true by rw [allR_succ, Hall.out, He.out, q0]; rfl)
            go_upto_region 11 with fail
            go_cut [87] from 76 to 87 (fun s87 wx => s87 = .bool false ∧ Below wr.heap.size wr wx)
            case first =>
              go_region_held3 (fun w' => Below (wr).heap.size (wr) w' ∧ (∀ xb xo, xb < (wr).heap.size → w'.cell? ⟨xb, xo, none⟩ = (wr).cell? ⟨xb, xo, none⟩)) (first | exact keep_drew _ | exact keep_ext (by assumption) (by assumption) | exact keep_same (by assumption) | exact keep_alloc (by assumption) _) (first | (go_at_call 25; refine (ih d d' _ _ _ _ _ (HC.out.now (ext_trans hbr (by first | (with_reducible exact Below.refl _ _) | exact (keep_same (by assumption)).1))) (HD.out.now (ext_trans hbr (by first | (with_reducible exact Below.refl _ _) | exact (keep_same (by assumption)).1)))).mono ?_; rintro e w9 ⟨rfl, hb9⟩))
              have hb := held_step (by assumption)
              go_wp2_with fail
              go_meet
              exact ⟨by simp, hb⟩
            case rest =>
              obtain ⟨rfl, hbq⟩ := hcut
              have HTq := Lib.hid ((hbq.block _ hl1).trans HT.out)
              have HKq := Lib.hid ((hbq.block _ hl2).trans HK.out)
              have HBq := Lib.hid (hbr.trans (hbq.mono hbr.size))
              go_wp2_with fail
              go_roundw
              case rel => exact ⟨k + 1, by omega, by go_num, Hn.out, HTq.out, HKq.out, HBq.out⟩
              case measure => simp [intOf]; omega
        · obtain rfl : k = a.kids.length := by omega
          have Hx := Lib.hid (show eqTr (n + 1) a b = true by rw [Hf.out]; exact eqL_all (eqTr n) a.kids b.kids Ld.out Hall.out)
          clear hA5 hB5
          go_wp2_with fail
          go_ret
          exact ⟨ret_bool Hx.out.symm, bel⟩
theorem all_sameS : ∀ n, T_sameS n
  | 0 => fun _ _ _ _ _ _ _ h _ => (C_Tree.none h).elim
  | n + 1 => of_sameS n (all_sameS n)
end Go.Proofs.YtffelpdefjkeaaaGreatDoor
namespace Go.Proofs.YtffelpdefjkeaaaGreatDoor
open Go.RowKit Go.Lib
def sameB (a b : ByteArray) : Bool := ((readB a).1.code == 0) && ((readB b).1.code == 0) && eqTr 10 (readB a).2 (readB b).2
set_option maxHeartbeats 2000000 in
theorem c_impl_BracedSame (a b : ByteArray) (w : World) (ha : a.size ≤ 1048576) (hb : b.size ≤ 1048576) (hV : CTab w) (hT : Tabs w) (hE : ErrR w) :
    Calls Tryz.prog 13 #[.string a, .string b] w fun e w' => e = .returned (.bool (sameB a b)) ∧ Below w.heap.size w w' := by
  have HA := Lib.hid (fun (w' : World) (h : Below w.heap.size w w') => c_impl_ReadBraced a w' ha (hV.below h) (hT.below h) (hE.below h))
  have HB := Lib.hid (fun (w' : World) (h : Below w.heap.size w w') => c_impl_ReadBraced b w' hb (hV.below h) (hT.below h) (hE.below h))
  have HF := Lib.hid (show sameB a b = (((readB a).1.code == 0) && ((readB b).1.code == 0) && eqTr 10 (readB a).2 (readB b).2) from rfl)
  obtain ⟨r, hr⟩ : ∃ r, r = readB a := ⟨_, rfl⟩
  rw [← hr] at HA HF
  obtain ⟨q, hq⟩ : ∃ q, q = readB b := ⟨_, rfl⟩
  rw [← hq] at HB HF
  clear hr hq hV hT hE
  obtain ⟨⟨fc, fa, fp⟩, t⟩ := r
  obtain ⟨⟨gc, ga, gp⟩, u⟩ := q
  have hrf : fltC (⟨fc, fa, fp⟩ : Flt) = #[.int .i64 fc, .int .i64 fa, .string fp] := rfl
  have hrg : fltC (⟨gc, ga, gp⟩ : Flt) = #[.int .i64 gc, .int .i64 ga, .string gp] := rfl
  have q1 : (fc == 0) = false ∨ (fc == 0) = true := by rcases (fc == 0) with _ | _ <;> simp
  have q2 : (gc == 0) = false ∨ (gc == 0) = true := by rcases (gc == 0) with _ | _ <;> simp
  simp only at HF
  go_enter Tryz.func13, Tryz.ntmps13
  go_wp2_with fail
  refine (HA.out w bel).mono ?_
  rintro e w1 ⟨cs, rfl, hO1, hb1⟩
  have HC1 := Lib.hid (hO1.toC (fun _ h => h))
  obtain ⟨U4, u44, U5, u55, rfl, -⟩ := hO1.flat
  simp only [hrf]
  have HB1 := Lib.hid hb1
  clear hO1 hb1 hrf
  go_wp2_with fail
  obtain ⟨w2, hw2⟩ : ∃ W, W = (w1.alloc (.cells #[.int .i64 t.kind, .bool t.flag, .int .i64 t.num, .string t.text, .slice U4 t.keys.length u44, .slice U5 t.kids.length u55] 27)).alloc (.cells #[.int .i64 fc, .int .i64 fa, .string fp] 29) := ⟨_, rfl⟩
  have hb2 : Below w1.heap.size w1 w2 := by rw [hw2]; exact bel
  have X1 : w2.heap[w1.heap.size]? = some (.cells #[.int .i64 t.kind, .bool t.flag, .int .i64 t.num, .string t.text, .slice U4 t.keys.length u44, .slice U5 t.kids.length u55] 27 (0, 0)) := by rw [hw2]; exact (Below.heap_alloc _ _ _ (by simp)).trans (heap_at rfl)
  have X2 : w2.heap[w1.heap.size + 1]? = some (.cells #[.int .i64 fc, .int .i64 fa, .string fp] 29 (0, 0)) := by rw [hw2]; exact heap_at (by simp)
  rw [← hw2]
  refine (HB.out w2 (HB1.out.trans (hb2.mono HB1.out.size))).mono ?_
  rintro e w3 ⟨cs, rfl, hO2, hb3⟩
  have HC2 := Lib.hid (hO2.toC (fun _ h => h))
  obtain ⟨V4, v44, V5, v55, rfl, -⟩ := hO2.flat
  simp only [hrg]
  have HT1 := Lib.hid ((hb3.block _ (row_lt X1)).trans X1)
  have HT2 := Lib.hid ((hb3.block _ (row_lt X2)).trans X2)
  have H13 := Lib.hid (hb2.trans (hb3.mono hb2.size))
  have H03 := Lib.hid (HB1.out.trans (H13.out.mono HB1.out.size))
  obtain ⟨x0, x1, x2, x3, x4, x5, xf⟩ := row6 HT1.out
  obtain ⟨y0, y1, y2, yf⟩ := row3 HT2.out
  have l1 := row_lt HT1.out
  have l2 := row_lt HT2.out
  clear hO2 hb3 hrg hw2 hb2 X1 X2
  rcases q1 with q1 | q1
  · have HX := Lib.hid (show sameB a b = false by rw [HF.out, q1]; rfl)
    go_wp2_with fail
    have h03 := H03.out
    go_ret
    exact ⟨ret_bool HX.out.symm, bel⟩
  · rcases q2 with q2 | q2
    · have HX := Lib.hid (show sameB a b = false by rw [HF.out, q1, q2]; rfl)
      go_wp2_with fail
      have h03 := H03.out
      go_ret
      exact ⟨ret_bool HX.out.symm, bel⟩
    · have HX := Lib.hid (show sameB a b = eqTr 10 t u by rw [HF.out, q1, q2]; rfl)
      have HS := Lib.hid (fun (w' : World) (h : Below w3.heap.size w3 w') => all_sameI 10 t u _ _ w' _ _ (HC1.out.now (H13.out.trans (h.mono H13.out.size))) (HC2.out.now h))
      go_wp2_with (go_at_call 29; refine (HS.out _ bel).mono ?_; rintro e w4 ⟨rfl, hb4⟩)
      have h03 := H03.out
      go_ret
      exact ⟨ret_bool HX.out.symm, bel⟩
set_option maxHeartbeats 2000000 in
theorem c_spec_BracedSame (a b : ByteArray) (w : World) (ha : a.size ≤ 1048576) (hb : b.size ≤ 1048576) :
    Calls Tryz.prog 12 #[.string a, .string b] w fun e w' => e = .returned (.bool (sameB a b)) ∧ Below w.heap.size w w' := by
  have HA := Lib.hid (fun (w' : World) (h : Below w.heap.size w w') => c_spec_ReadBraced a w' ha )
  have HB := Lib.hid (fun (w' : World) (h : Below w.heap.size w w') => c_spec_ReadBraced b w' hb )
  have HF := Lib.hid (show sameB a b = (((readB a).1.code == 0) && ((readB b).1.code == 0) && eqTr 10 (readB a).2 (readB b).2) from rfl)
  obtain ⟨r, hr⟩ : ∃ r, r = readB a := ⟨_, rfl⟩
  rw [← hr] at HA HF
  obtain ⟨q, hq⟩ : ∃ q, q = readB b := ⟨_, rfl⟩
  rw [← hq] at HB HF
  clear hr hq
  obtain ⟨⟨fc, fa, fp⟩, t⟩ := r
  obtain ⟨⟨gc, ga, gp⟩, u⟩ := q
  have hrf : fltC (⟨fc, fa, fp⟩ : Flt) = #[.int .i64 fc, .int .i64 fa, .string fp] := rfl
  have hrg : fltC (⟨gc, ga, gp⟩ : Flt) = #[.int .i64 gc, .int .i64 ga, .string gp] := rfl
  have q1 : (fc == 0) = false ∨ (fc == 0) = true := by rcases (fc == 0) with _ | _ <;> simp
  have q2 : (gc == 0) = false ∨ (gc == 0) = true := by rcases (gc == 0) with _ | _ <;> simp
  simp only at HF
  go_enter Tryz.func12, Tryz.ntmps12
  go_wp2_with fail
  refine (HA.out w bel).mono ?_
  rintro e w1 ⟨cs, rfl, hO1, hb1⟩
  have HC1 := Lib.hid (hO1.toC (fun _ h => h))
  obtain ⟨U4, u44, U5, u55, rfl, -⟩ := hO1.flat
  simp only [hrf]
  have HB1 := Lib.hid hb1
  clear hO1 hb1 hrf
  go_wp2_with fail
  obtain ⟨w2, hw2⟩ : ∃ W, W = (w1.alloc (.cells #[.int .i64 t.kind, .bool t.flag, .int .i64 t.num, .string t.text, .slice U4 t.keys.length u44, .slice U5 t.kids.length u55] 27)).alloc (.cells #[.int .i64 fc, .int .i64 fa, .string fp] 29) := ⟨_, rfl⟩
  have hb2 : Below w1.heap.size w1 w2 := by rw [hw2]; exact bel
  have X1 : w2.heap[w1.heap.size]? = some (.cells #[.int .i64 t.kind, .bool t.flag, .int .i64 t.num, .string t.text, .slice U4 t.keys.length u44, .slice U5 t.kids.length u55] 27 (0, 0)) := by rw [hw2]; exact (Below.heap_alloc _ _ _ (by simp)).trans (heap_at rfl)
  have X2 : w2.heap[w1.heap.size + 1]? = some (.cells #[.int .i64 fc, .int .i64 fa, .string fp] 29 (0, 0)) := by rw [hw2]; exact heap_at (by simp)
  rw [← hw2]
  refine (HB.out w2 (HB1.out.trans (hb2.mono HB1.out.size))).mono ?_
  rintro e w3 ⟨cs, rfl, hO2, hb3⟩
  have HC2 := Lib.hid (hO2.toC (fun _ h => h))
  obtain ⟨V4, v44, V5, v55, rfl, -⟩ := hO2.flat
  simp only [hrg]
  have HT1 := Lib.hid ((hb3.block _ (row_lt X1)).trans X1)
  have HT2 := Lib.hid ((hb3.block _ (row_lt X2)).trans X2)
  have H13 := Lib.hid (hb2.trans (hb3.mono hb2.size))
  have H03 := Lib.hid (HB1.out.trans (H13.out.mono HB1.out.size))
  obtain ⟨x0, x1, x2, x3, x4, x5, xf⟩ := row6 HT1.out
  obtain ⟨y0, y1, y2, yf⟩ := row3 HT2.out
  have l1 := row_lt HT1.out
  have l2 := row_lt HT2.out
  clear hO2 hb3 hrg hw2 hb2 X1 X2
  rcases q1 with q1 | q1
  · have HX := Lib.hid (show sameB a b = false by rw [HF.out, q1]; rfl)
    go_wp2_with fail
    have h03 := H03.out
    go_ret
    exact ⟨ret_bool HX.out.symm, bel⟩
  · rcases q2 with q2 | q2
    · have HX := Lib.hid (show sameB a b = false by rw [HF.out, q1, q2]; rfl)
      go_wp2_with fail
      have h03 := H03.out
      go_ret
      exact ⟨ret_bool HX.out.symm, bel⟩
    · have HX := Lib.hid (show sameB a b = eqTr 10 t u by rw [HF.out, q1, q2]; rfl)
      have HS := Lib.hid (fun (w' : World) (h : Below w3.heap.size w3 w') => all_sameS 10 t u _ _ w' _ _ (HC1.out.now (H13.out.trans (h.mono H13.out.size))) (HC2.out.now h))
      go_wp2_with (go_at_call 25; refine (HS.out _ bel).mono ?_; rintro e w4 ⟨rfl, hb4⟩)
      have h03 := H03.out
      go_ret
      exact ⟨ret_bool HX.out.symm, bel⟩
set_option maxHeartbeats 1000000 in
theorem w_FnExactBracedSame (d0 : ByteArray) (v0 : Value) (d1 : ByteArray) (v1 : Value) (w : World) (h0 : R_Str w d0 v0) (h1 : R_Str w d1 v1) (hE : ErrR w) (hT : Tabs w) (hV : CTab w) :
    Calls Tryz.prog 4 #[v0, v1] w fun e w' => e = .returned (.bool true) ∧ Below w.heap.size w w' := by
  obtain ⟨rfl, hs⟩ := h0
  obtain ⟨rfl, hs1⟩ := h1
  have HC := Lib.hid (And.intro hV (And.intro hT hE))
  clear hV hT hE
  by_cases hq : d0.size ≤ 1048576
  · have hq1 : decide ((1048576 : Int) < d0.size) = false := decide_eq_false (by omega)
    by_cases hz : d1.size ≤ 1048576
    · have hz1 : decide ((1048576 : Int) < d1.size) = false := decide_eq_false (by omega)
      go_enter Tryz.func4, Tryz.ntmps4
      go_wp2_with fail
      refine (c_spec_BracedSame d0 d1 _ hq hz).mono ?_
      rintro e w1 ⟨rfl, hb1⟩
      go_wp2_with fail
      refine (c_impl_BracedSame d0 d1 _ hq hz (HC.out.1.below hb1) (HC.out.2.1.below hb1) (HC.out.2.2.below hb1)).mono ?_
      rintro e w2 ⟨rfl, hb2⟩
      go_wp2_with fail
      go_ret
      exact ⟨rfl, ext_trans hb1 hb2⟩
    · have hz1 : decide ((1048576 : Int) < d1.size) = true := decide_eq_true (by omega)
      go_enter Tryz.func4, Tryz.ntmps4
      go_wp2_with fail
      go_ret
      exact ⟨rfl, Below.refl _ _⟩
  · have hq1 : decide ((1048576 : Int) < d0.size) = true := decide_eq_true (by omega)
    go_enter Tryz.func4, Tryz.ntmps4
    go_wp2_with fail
    go_ret
    exact ⟨rfl, Below.refl _ _⟩
end Go.Proofs.YtffelpdefjkeaaaGreatDoor
