/- Written by wip/tools/pack.py: the texts that FnOrder needs, without what it does not need. No conditions. -/
import Derived.Test.YtffelpdefjkeaaaGreatDoorKFnOrder1
import Derived.Test.YtffelpdefjkeaaaGreatDoorKFnOrder2
import Derived.Test.YtffelpdefjkeaaaGreatDoorKFnOrder14
import Derived.Test.YtffelpdefjkeaaaGreatDoorKFnOrder4
import Derived.Deep.CutRange
import Derived.Deep.RegionHeld3
namespace Go.Proofs.YtffelpdefjkeaaaGreatDoor
open Go.RowKit
def allR (n : Nat) (p : Nat → Bool) : Bool := (List.range n).all p
theorem allR_succ (n : Nat) (p : Nat → Bool) : allR (n + 1) p = (allR n p && p n) := by
  unfold allR; rw [List.range_succ, List.all_append]; simp
theorem allR_bad (n k : Nat) (p : Nat → Bool) (hk : k < n) (h : p k = false) : allR n p = false := by
  unfold allR; rw [List.all_eq_false]; exact ⟨k, by simpa using hk, by simp [h]⟩
def eqAt {D : Type} (eq : D → D → Bool) (l m : List D) (i : Nat) : Bool := match l[i]?, m[i]? with | some a, some b => eq a b | _, _ => true
theorem eqAt_eq {D : Type} (eq : D → D → Bool) (l m : List D) (i : Nat) (a b : D) (ha : l[i]? = some a) (hb : m[i]? = some b) : eqAt eq l m i = eq a b := by unfold eqAt; rw [ha, hb]
def eqL {D : Type} (eq : D → D → Bool) (l m : List D) : Bool := decide (l.length = m.length) && allR l.length (eqAt eq l m)
theorem eqL_len {D : Type} (eq : D → D → Bool) (l m : List D) (h : l.length ≠ m.length) : eqL eq l m = false := by unfold eqL; simp [h]
theorem eqL_bad {D : Type} (eq : D → D → Bool) (l m : List D) (k : Nat) (hk : k < l.length) (h : eqAt eq l m k = false) : eqL eq l m = false := by unfold eqL; rw [allR_bad _ k _ hk h, Bool.and_false]
theorem eqL_all {D : Type} (eq : D → D → Bool) (l m : List D) (h : l.length = m.length) (ha : allR l.length (eqAt eq l m) = true) : eqL eq l m = true := by unfold eqL; rw [ha]; simp [h]
def eqStr (d d' : ByteArray) : Bool := (d.toList == d'.toList)
set_option maxHeartbeats 4000000 in
theorem c_Equal_Str (l m : List ByteArray) (va vb : Value) (w : World) (lo lo' : Nat) (ha : Sl_Str lo w.heap.size w l va) (hb : Sl_Str lo' w.heap.size w m vb) :
    Calls Tryz.prog 54 #[va, vb] w fun e w' => e = .returned (.bool (eqL eqStr l m)) ∧ Below w.heap.size w w' := by
  obtain ⟨A, c, rfl, hlc, hc, hA⟩ := ha
  obtain ⟨B, c', rfl, hlc', hc', hB⟩ := hb
  by_cases hlen : l.length = m.length
  · have hz : ((l.length : Int) != m.length) = false := by simp [hlen]
    have Hlen := Lib.hid hlen
    clear hlen
    go_enter Tryz.func54, Tryz.ntmps54
    go_wp2_with fail
    go_loopw [13] (fun i wr => ∃ k : Nat, k ≤ l.length ∧ i = .int .i64 k ∧ allR k (eqAt eqStr l m) = true ∧ Below w.heap.size w wr) (fun i _ => l.length - (intOf i).toNat)
    case atStart => exact ⟨0, Nat.zero_le _, rfl, rfl, bel⟩
    case round =>
      obtain ⟨k, hk, rfl, hall, hbr⟩ := hrel
      have Hall := Lib.hid hall
      clear hall
      by_cases hlt : k < l.length
      · obtain ⟨b, o, rfl, -, hbl, hcell⟩ := hA (by omega)
        obtain ⟨b', o', rfl, -, hbl', hcell'⟩ := hB (by have := Hlen.out; omega)
        obtain ⟨d, hd⟩ := exists_at hlt
        obtain ⟨d', hd'⟩ := exists_at (show k < m.length by have := Hlen.out; omega)
        obtain ⟨es, -, hcs, hC⟩ := hcell k d hd
        obtain ⟨es', -, hcs', hC'⟩ := hcell' k d' hd'
        obtain ⟨rfl, -⟩ := hC
        obtain ⟨rfl, -⟩ := hC'
        have hc0 := (hbr.cell (p := ⟨b, o + k * 1 + 0, none⟩) hbl).trans (hcs 0 (by omega))
        have hd0 := (hbr.cell (p := ⟨b', o' + k * 1 + 0, none⟩) hbl').trans (hcs' 0 (by omega))
        simp at hc0 hd0
        have hbr1 := Nat.lt_of_lt_of_le hbl hbr.size
        have hbr2 := Nat.lt_of_lt_of_le hbl' hbr.size
        have hk0 : (0 : Int) ≤ k := by omega
        have hk1 : (k : Int) < l.length := by omega
        have hk2 : (k : Int) < m.length := by have := Hlen.out; omega
        have He := Lib.hid (eqAt_eq eqStr l m k d d' hd hd')
        clear hcs hcell hA hcs' hcell' hB hd hd'
        rcases q0 : (d.toList == d'.toList) with _ | _
        · have Hbad := Lib.hid (show eqAt eqStr l m k = false by rw [He.out]; simp [eqStr, q0])
          go_wp2_with fail
          refine wp_region_det 9 (by kernel_rfl) (by kernel_rfl) (by decide) ?_
          apply Exists.intro
          refine And.intro ?_ ?_
          · (intro W hW; (try simp only [Act.put, List.setIfInBounds_toArray, List.set_cons_zero, List.set_cons_succ]); first | (go_wp2_with fail; exact ⟨rfl, rfl, Below.refl _ _⟩))
          apply Exists.intro
          refine And.intro ?_ ?_
          · (intro W hW; (try simp only [Act.put, List.setIfInBounds_toArray, List.set_cons_zero, List.set_cons_succ]); first | (go_wp2_with fail; exact ⟨rfl, rfl, Below.refl _ _⟩))
          apply Exists.intro
          refine And.intro ?_ ?_
          · (intro W hW; (try simp only [Act.put, List.setIfInBounds_toArray, List.set_cons_zero, List.set_cons_succ]); first | (go_wp2_with fail; exact ⟨rfl, rfl, Below.refl _ _⟩))
          apply Exists.intro
          refine And.intro ?_ ?_
          · (intro W hW; (try simp only [Act.put, List.setIfInBounds_toArray, List.set_cons_zero, List.set_cons_succ]); first | (obtain ⟨hcW, hfW⟩ := bcell hW; have hsW := hW.size; (try simp at hsW); (try have hsW0 := lt_of_succ_le hsW); (try (have hsW1 := lt_pred hsW; (try (have hsW2 := lt_pred hsW1)))); go_wp2_with fail; exact ⟨rfl, rfl, Below.refl _ _⟩))
          apply Exists.intro
          refine And.intro ?_ ?_
          · (intro W hW; (try simp only [Act.put, List.setIfInBounds_toArray, List.set_cons_zero, List.set_cons_succ]); first | (go_wp2_with fail; exact ⟨rfl, rfl, Below.refl _ _⟩))
          apply Exists.intro
          refine And.intro ?_ ?_
          · (intro W hW; (try simp only [Act.put, List.setIfInBounds_toArray, List.set_cons_zero, List.set_cons_succ]); first | (go_wp2_with fail; exact ⟨rfl, rfl, Below.refl _ _⟩))
          apply Exists.intro
          refine And.intro ?_ ?_
          · (intro W hW; (try simp only [Act.put, List.setIfInBounds_toArray, List.set_cons_zero, List.set_cons_succ]); first | (go_wp2_with fail; exact ⟨rfl, rfl, Below.refl _ _⟩))
          apply Exists.intro
          refine And.intro ?_ ?_
          · (intro W hW; (try simp only [Act.put, List.setIfInBounds_toArray, List.set_cons_zero, List.set_cons_succ]); first | (obtain ⟨hcW, hfW⟩ := bcell hW; have hsW := hW.size; (try simp at hsW); (try have hsW0 := lt_of_succ_le hsW); (try (have hsW1 := lt_pred hsW; (try (have hsW2 := lt_pred hsW1)))); go_wp2_with fail; exact ⟨rfl, rfl, Below.refl _ _⟩))
          apply Exists.intro
          refine And.intro ?_ ?_
          · (intro W hW; (try simp only [Act.put, List.setIfInBounds_toArray, List.set_cons_zero, List.set_cons_succ]); first | (go_wp2_with fail; exact ⟨rfl, rfl, Below.refl _ _⟩))
          intro w1 hb
          (first | (have hcu2 := Cum.join hcu hb; (try clear hcu); (try clear hc); (try clear hfz); (try clear hsz); (try clear hs0); (try clear hs1); (try clear hs2); (try clear hs3); (try clear hs4); ) | have hcu2 := Cum.mk hb); have hcu := hcu2; clear hcu2; obtain ⟨hc, hfz⟩ := bcell hcu.h; have hsz := hcu.h.size; (try simp at hsz); (try have hs0 := lt_of_succ_le hsz); (try (have hs1 := lt_pred hsz; (try (have hs2 := lt_pred hs1; (try (have hs3 := lt_pred hs2; (try have hs4 := lt_pred hs3)))))))
          (try simp only [Act.put, List.setIfInBounds_toArray, List.set_cons_zero, List.set_cons_succ])
          (try simp only [List.drop_succ_cons, List.drop_nil])
          go_wp2_with fail
          have Hf := eqL_bad eqStr l m k hlt Hbad.out
          go_ret
          exact ⟨ret_bool Hf.symm, bel⟩
        · skip
          have Hn := Lib.hid (show allR (k + 1) (eqAt eqStr l m) = true by rw [allR_succ, Hall.out, He.out]; simp [eqStr, q0])
          go_wp2_with fail
          refine wp_region_det 9 (by kernel_rfl) (by kernel_rfl) (by decide) ?_
          apply Exists.intro
          refine And.intro ?_ ?_
          · (intro W hW; (try simp only [Act.put, List.setIfInBounds_toArray, List.set_cons_zero, List.set_cons_succ]); first | (go_wp2_with fail; exact ⟨rfl, rfl, Below.refl _ _⟩))
          apply Exists.intro
          refine And.intro ?_ ?_
          · (intro W hW; (try simp only [Act.put, List.setIfInBounds_toArray, List.set_cons_zero, List.set_cons_succ]); first | (go_wp2_with fail; exact ⟨rfl, rfl, Below.refl _ _⟩))
          apply Exists.intro
          refine And.intro ?_ ?_
          · (intro W hW; (try simp only [Act.put, List.setIfInBounds_toArray, List.set_cons_zero, List.set_cons_succ]); first | (go_wp2_with fail; exact ⟨rfl, rfl, Below.refl _ _⟩))
          apply Exists.intro
          refine And.intro ?_ ?_
          · (intro W hW; (try simp only [Act.put, List.setIfInBounds_toArray, List.set_cons_zero, List.set_cons_succ]); first | (obtain ⟨hcW, hfW⟩ := bcell hW; have hsW := hW.size; (try simp at hsW); (try have hsW0 := lt_of_succ_le hsW); (try (have hsW1 := lt_pred hsW; (try (have hsW2 := lt_pred hsW1)))); go_wp2_with fail; exact ⟨rfl, rfl, Below.refl _ _⟩))
          apply Exists.intro
          refine And.intro ?_ ?_
          · (intro W hW; (try simp only [Act.put, List.setIfInBounds_toArray, List.set_cons_zero, List.set_cons_succ]); first | (go_wp2_with fail; exact ⟨rfl, rfl, Below.refl _ _⟩))
          apply Exists.intro
          refine And.intro ?_ ?_
          · (intro W hW; (try simp only [Act.put, List.setIfInBounds_toArray, List.set_cons_zero, List.set_cons_succ]); first | (go_wp2_with fail; exact ⟨rfl, rfl, Below.refl _ _⟩))
          apply Exists.intro
          refine And.intro ?_ ?_
          · (intro W hW; (try simp only [Act.put, List.setIfInBounds_toArray, List.set_cons_zero, List.set_cons_succ]); first | (go_wp2_with fail; exact ⟨rfl, rfl, Below.refl _ _⟩))
          apply Exists.intro
          refine And.intro ?_ ?_
          · (intro W hW; (try simp only [Act.put, List.setIfInBounds_toArray, List.set_cons_zero, List.set_cons_succ]); first | (obtain ⟨hcW, hfW⟩ := bcell hW; have hsW := hW.size; (try simp at hsW); (try have hsW0 := lt_of_succ_le hsW); (try (have hsW1 := lt_pred hsW; (try (have hsW2 := lt_pred hsW1)))); go_wp2_with fail; exact ⟨rfl, rfl, Below.refl _ _⟩))
          apply Exists.intro
          refine And.intro ?_ ?_
          · (intro W hW; (try simp only [Act.put, List.setIfInBounds_toArray, List.set_cons_zero, List.set_cons_succ]); first | (go_wp2_with fail; exact ⟨rfl, rfl, Below.refl _ _⟩))
          intro w1 hb
          (first | (have hcu2 := Cum.join hcu hb; (try clear hcu); (try clear hc); (try clear hfz); (try clear hsz); (try clear hs0); (try clear hs1); (try clear hs2); (try clear hs3); (try clear hs4); ) | have hcu2 := Cum.mk hb); have hcu := hcu2; clear hcu2; obtain ⟨hc, hfz⟩ := bcell hcu.h; have hsz := hcu.h.size; (try simp at hsz); (try have hs0 := lt_of_succ_le hsz); (try (have hs1 := lt_pred hsz; (try (have hs2 := lt_pred hs1; (try (have hs3 := lt_pred hs2; (try have hs4 := lt_pred hs3)))))))
          (try simp only [Act.put, List.setIfInBounds_toArray, List.set_cons_zero, List.set_cons_succ])
          (try simp only [List.drop_succ_cons, List.drop_nil])
          go_wp2_with fail
          go_roundw
          case rel => exact ⟨k + 1, by omega, by go_num, Hn.out, bel⟩
          case measure => simp [intOf]; omega
      · obtain rfl : k = l.length := by omega
        clear hA hB
        go_wp2_with fail
        go_ret
        exact ⟨ret_bool (eqL_all eqStr l m Hlen.out Hall.out).symm, bel⟩
  · have hz : ((l.length : Int) != m.length) = true := bne_iff_ne.2 (by omega)
    go_enter Tryz.func54, Tryz.ntmps54
    go_wp2_with fail
    go_ret
    exact ⟨ret_bool (eqL_len eqStr l m hlen).symm, bel⟩
end Go.Proofs.YtffelpdefjkeaaaGreatDoor
namespace Go.Proofs.YtffelpdefjkeaaaGreatDoor
open Go.RowKit
def strB (s : ByteArray) : Bool := decide (s.size ≤ 400) && utf8B s
def badH (d : TreeD) : Bool := !inB d.kind 1 6 || (d.flag && d.kind != 2) || (d.num != 0 && d.kind != 3) || (!d.text.toList.isEmpty && d.kind != 4) || (decide (0 < d.keys.length) && d.kind != 6) || (decide (0 < d.kids.length) && decide (d.kind < 5))
def keyOk (ks : List ByteArray) (i : Nat) : Bool := match ks[i]? with
  | none => true
  | some k => strB k && (match i with
    | 0 => true
    | j + 1 => match ks[j]? with
      | none => true
      | some p => lessS p k)
def lensOk (d : TreeD) : Bool := !(d.kind == 6 && decide (d.keys.length ≠ d.kids.length))
def kidAt (f : TreeD → Bool) (l : List TreeD) (i : Nat) : Bool := match l[i]? with | none => true | some t => f t
/-- What nodesOk says. -/
def shapeT : Nat → TreeD → Bool
  | 0, _ => false
  | n + 1, d => !badH d && strB d.text && lensOk d && allR d.keys.length (keyOk d.keys) && allR d.kids.length (kidAt (shapeT n) d.kids)
theorem shapeT_succ (n : Nat) (d : TreeD) : shapeT (n + 1) d = (!badH d && strB d.text && lensOk d && allR d.keys.length (keyOk d.keys) && allR d.kids.length (kidAt (shapeT n) d.kids)) := rfl
theorem keyOk_none {ks : List ByteArray} {i : Nat} {k : ByteArray} (h : ks[i]? = some k) (hs : strB k = false) : keyOk ks i = false := by unfold keyOk; rw [h]; simp only; rw [hs]; rfl
theorem keyOk_zero {ks : List ByteArray} {k : ByteArray} (h : ks[0]? = some k) : keyOk ks 0 = strB k := by unfold keyOk; rw [h]; simp only; rw [Bool.and_true]
theorem keyOk_succ {ks : List ByteArray} {j : Nat} {p k : ByteArray} (h : ks[j + 1]? = some k) (hp : ks[j]? = some p) : keyOk ks (j + 1) = (strB k && lessS p k) := by unfold keyOk; rw [h]; simp only; rw [hp]
theorem kidAt_eq {f : TreeD → Bool} {l : List TreeD} {i : Nat} {t : TreeD} (h : l[i]? = some t) : kidAt f l i = f t := by unfold kidAt; rw [h]
theorem c_impl_stringOk (s : ByteArray) (w : World) (hT : Tabs w) (hs : s.size ≤ 9223372036854775807) :
    Calls Tryz.prog 114 #[.string s] w fun e w' => e = .returned (.bool (strB s)) ∧ Below w.heap.size w w' := by
  by_cases h : s.size ≤ 400
  · have Hf := Lib.hid (show strB s = utf8B s by unfold strB; rw [decide_eq_true h, Bool.true_and])
    have d1 : decide ((s.size : Int) ≤ 400) = true := decide_eq_true (by omega)
    have HC := Lib.hid (fun (w' : World) (hb : Below w.heap.size w w') => c_impl_Utf8Ok s w' hs (hT.below hb))
    clear h hT
    go_enter Tryz.func114, Tryz.ntmps114
    go_wp2_with (go_at_call 117; refine (HC.out _ bel).mono ?_; rintro e w1 ⟨rfl, hb⟩; (first | (have hcu2 := Cum.join hcu hb; (try clear hcu); (try clear hc); (try clear hfz); (try clear hsz); (try clear hs0); (try clear hs1); (try clear hs2); (try clear hs3); (try clear hs4); ) | have hcu2 := Cum.mk hb); have hcu := hcu2; clear hcu2; obtain ⟨hc, hfz⟩ := bcell hcu.h; have hsz := hcu.h.size; (try simp at hsz); (try have hs0 := lt_of_succ_le hsz); (try (have hs1 := lt_pred hsz; (try (have hs2 := lt_pred hs1; (try (have hs3 := lt_pred hs2; (try have hs4 := lt_pred hs3))))))))
    go_ret
    exact ⟨ret_bool Hf.out.symm, bel⟩
  · have Hf := Lib.hid (show strB s = false by unfold strB; rw [decide_eq_false h, Bool.false_and])
    have d1 : decide ((s.size : Int) ≤ 400) = false := decide_eq_false (by omega)
    clear h hT
    go_enter Tryz.func114, Tryz.ntmps114
    go_wp2_with fail
    go_ret
    exact ⟨ret_bool Hf.out.symm, bel⟩
theorem c_spec_l08Text (s : ByteArray) (w : World) :
    Calls Tryz.prog 87 #[.string s] w fun e w' => e = .returned (.bool (strB s)) ∧ Below w.heap.size w w' := by
  by_cases h : s.size ≤ 400
  · have Hf := Lib.hid (show strB s = utf8B s by unfold strB; rw [decide_eq_true h, Bool.true_and])
    have d1 : decide ((s.size : Int) ≤ 400) = true := decide_eq_true (by omega)
    have HC := Lib.hid (fun (w' : World) => c_spec_Utf8Ok s w' (by omega))
    clear h
    go_enter Tryz.func87, Tryz.ntmps87
    go_wp2_with (go_at_call 118; refine (HC.out _).mono ?_; rintro e w1 ⟨rfl, hb⟩; (first | (have hcu2 := Cum.join hcu hb; (try clear hcu); (try clear hc); (try clear hfz); (try clear hsz); (try clear hs0); (try clear hs1); (try clear hs2); (try clear hs3); (try clear hs4); ) | have hcu2 := Cum.mk hb); have hcu := hcu2; clear hcu2; obtain ⟨hc, hfz⟩ := bcell hcu.h; have hsz := hcu.h.size; (try simp at hsz); (try have hs0 := lt_of_succ_le hsz); (try (have hs1 := lt_pred hsz; (try (have hs2 := lt_pred hs1; (try (have hs3 := lt_pred hs2; (try have hs4 := lt_pred hs3))))))))
    go_ret
    exact ⟨ret_bool Hf.out.symm, bel⟩
  · have Hf := Lib.hid (show strB s = false by unfold strB; rw [decide_eq_false h, Bool.false_and])
    have d1 : decide ((s.size : Int) ≤ 400) = false := decide_eq_false (by omega)
    clear h
    go_enter Tryz.func87, Tryz.ntmps87
    go_wp2_with fail
    go_ret
    exact ⟨ret_bool Hf.out.symm, bel⟩
def T_nodI (n : Nat) : Prop := ∀ (d : TreeD) (cs : List Value) (w : World) (lo : Nat), C_Tree n lo w.heap.size w d cs → Tabs w →
    Calls Tryz.prog 82 #[.agg cs.toArray] w fun e w' => e = .returned (.bool (shapeT n d)) ∧ Below w.heap.size w w'
set_option maxHeartbeats 16000000 in
set_option maxRecDepth 10000 in
theorem of_nodI (n : Nat) (ih : T_nodI n) : T_nodI (n + 1) := by
  intro d cs w lo h hTab
  have HT0 := Lib.hid hTab
  clear hTab
  obtain ⟨v4, v5, rfl, a0, a2, a3, a4, a5⟩ := C_Tree.out h
  obtain ⟨A4, c4, rfl, hlk, hck, hK⟩ := a4
  obtain ⟨A5, c5, rfl, hlc, hcc, hA⟩ := a5
  have Hf := Lib.hid (shapeT_succ n d)
  clear h
  obtain ⟨dk, df, dn, dt, dks, dkd⟩ := d
  simp only at a0 a2 a3 hlk hK hlc hA ⊢
  obtain ⟨z, hz⟩ : ∃ z, z = shapeT (n + 1) ⟨dk, df, dn, dt, dks, dkd⟩ := ⟨_, rfl⟩
  rw [← hz] at Hf ⊢
  simp only at Hf
  clear hz
  obtain ⟨W0, hW0⟩ : ∃ W, W = w.alloc (.cells #[.int .i64 dk, .bool df, .int .i64 dn, .string dt, .slice A4 dks.length c4, .slice A5 dkd.length c5] 27) := ⟨_, rfl⟩
  have hB0 : Below w.heap.size w W0 := by rw [hW0]; exact bel
  have HR0 := Lib.hid (show W0.heap[w.heap.size]? = some (.cells #[.int .i64 dk, .bool df, .int .i64 dn, .string dt, .slice A4 dks.length c4, .slice A5 dkd.length c5] 27 (0, 0)) by rw [hW0]; exact heap_at rfl)
  have HW0 := Lib.hid hW0
  clear hW0
  go_enter Tryz.func82, Tryz.ntmps82
  go_upto_region 1 with fail
  go_cut [61] from 7 to 61 (fun s61 wx => s61 = .bool (badH ⟨dk, df, dn, dt, dks, dkd⟩) ∧ wx = w.alloc (.cells #[.int .i64 dk, .bool df, .int .i64 dn, .string dt, .slice A4 dks.length c4, .slice A5 dkd.length c5] 27))
  case first =>
    clear Hf hK hA HR0 HW0 hB0
    go_wp2_with (go_at_call 113; refine (c_impl_within _ _ _ _).mono ?_; rintro e w1 ⟨rfl, rfl⟩)
    all_goals
      (try simp only [Bool.not_eq_true] at *)
      (try subst_vars)
      go_meet
      refine ⟨?_, rfl⟩
      congr 1
    all_goals (unfold badH; simp_all; done)
  case rest =>
  obtain ⟨rfl, rfl⟩ := hcut
  rw [← HW0.out]
  obtain ⟨q1, hq1⟩ : ∃ q, q = badH ⟨dk, df, dn, dt, dks, dkd⟩ := ⟨_, rfl⟩
  rw [← hq1] at Hf ⊢
  clear hq1
  rcases q1 with _ | _
  rotate_left
  · have HX := Lib.hid (show z = false by rw [Hf.out]; rfl)
    go_wp2_with fail
    go_ret
    exact ⟨ret_bool HX.out.symm, bel⟩
  obtain ⟨x0, x1, x2, x3, x4, x5, xf⟩ := row6 HR0.out
  have l0 := row_lt HR0.out
  go_upto_region 3 with fail
  go_cut [79] from 62 to 79 (fun s79 wx => s79 = .bool (!(strB dt && lensOk ⟨dk, df, dn, dt, dks, dkd⟩)) ∧ Below W0.heap.size W0 wx)
  case first =>
    clear Hf hK hA
    rcases hst : strB dt with _ | _
    · go_wp2_with (go_at_call 114; refine (c_impl_stringOk _ _ (HT0.out.below hB0) (by omega)).mono ?_; rintro e w9 ⟨rfl, hb9⟩)
      go_meet
      exact ⟨by rw [hst]; rfl, hb9⟩
    · by_cases hk6 : dk = 6
      · by_cases hln : dks.length = dkd.length
        · have d1 : (dk == 6) = true := by simp [hk6]
          have d2 : ((dks.length : Int) != dkd.length) = false := by simp [hln]
          have HV := Lib.hid (show lensOk ⟨dk, df, dn, dt, dks, dkd⟩ = true by unfold lensOk; simp [hk6, hln])
          clear hk6 hln
          go_wp2_with (go_at_call 114; refine (c_impl_stringOk _ _ (HT0.out.below hB0) (by omega)).mono ?_; rintro e w9 ⟨rfl, hb9⟩; obtain ⟨m0, m1, m2, m3, m4, m5, mf⟩ := row6 ((hb9.block _ l0).trans HR0.out); have lm := Nat.lt_of_lt_of_le l0 hb9.size)
          go_meet
          exact ⟨by rw [hst, HV.out]; rfl, hb9⟩
        · have d1 : (dk == 6) = true := by simp [hk6]
          have d2 : ((dks.length : Int) != dkd.length) = true := bne_iff_ne.2 (by omega)
          have HV := Lib.hid (show lensOk ⟨dk, df, dn, dt, dks, dkd⟩ = false by unfold lensOk; simp [hk6, hln])
          clear hk6 hln
          go_wp2_with (go_at_call 114; refine (c_impl_stringOk _ _ (HT0.out.below hB0) (by omega)).mono ?_; rintro e w9 ⟨rfl, hb9⟩; obtain ⟨m0, m1, m2, m3, m4, m5, mf⟩ := row6 ((hb9.block _ l0).trans HR0.out); have lm := Nat.lt_of_lt_of_le l0 hb9.size)
          go_meet
          exact ⟨by rw [hst, HV.out]; rfl, hb9⟩
      · have d1 : (dk == 6) = false := beq_eq_false_iff_ne.2 hk6
        have HV := Lib.hid (show lensOk ⟨dk, df, dn, dt, dks, dkd⟩ = true by unfold lensOk; simp [hk6])
        clear hk6
        go_wp2_with (go_at_call 114; refine (c_impl_stringOk _ _ (HT0.out.below hB0) (by omega)).mono ?_; rintro e w9 ⟨rfl, hb9⟩; obtain ⟨m0, m1, m2, m3, m4, m5, mf⟩ := row6 ((hb9.block _ l0).trans HR0.out); have lm := Nat.lt_of_lt_of_le l0 hb9.size)
        go_meet
        exact ⟨by rw [hst, HV.out]; rfl, hb9⟩
  case rest =>
  obtain ⟨rfl, hb1⟩ := hcut
  have HR1 := Lib.hid ((hb1.block _ l0).trans HR0.out)
  have hB1 := hB0.trans (hb1.mono hB0.size)
  have hE := Lib.hid (show z = (strB dt && lensOk ⟨dk, df, dn, dt, dks, dkd⟩ && allR dks.length (keyOk dks) && allR dkd.length (kidAt (shapeT n) dkd)) by rw [Hf.out]; rfl)
  obtain ⟨q2, hq2⟩ : ∃ q, q = (strB dt && lensOk ⟨dk, df, dn, dt, dks, dkd⟩) := ⟨_, rfl⟩
  rw [← hq2] at hE ⊢
  clear hq2 Hf HR0 HW0 hB0 hb1 x0 x1 x2 x3 x4 x5 xf l0
  rcases q2 with _ | _
  · have HX := Lib.hid (show z = false by rw [hE.out]; rfl)
    go_wp2_with fail
    go_ret
    exact ⟨ret_bool HX.out.symm, bel⟩
  obtain ⟨x0, x1, x2, x3, x4, x5, xf⟩ := row6 HR1.out
  have l0 := row_lt HR1.out
  go_wp2_with fail
  go_loopw [83] (fun v wr => ∃ k : Nat, k ≤ dks.length ∧ v = .int .i64 k ∧ allR k (keyOk dks) = true ∧ wr.heap[w.heap.size]? = some (.cells #[.int .i64 dk, .bool df, .int .i64 dn, .string dt, .slice A4 dks.length c4, .slice A5 dkd.length c5] 27 (0, 0)) ∧ Below w.heap.size w wr) (fun v _ => dks.length - (intOf v).toNat)
  case atStart => exact ⟨0, Nat.zero_le _, rfl, rfl, HR1.out, hB1⟩
  case round =>
    clear x0 x1 x2 x3 x4 x5 xf l0 HR1 hB1
    obtain ⟨k, hk, rfl, hall, hT, hbr⟩ := hrel
    have HT := Lib.hid hT
    have Hall := Lib.hid hall
    clear hT hall
    obtain ⟨x0, x1, x2, x3, x4, x5, xf⟩ := row6 HT.out
    have l0 := row_lt HT.out
    by_cases hlt : k < dks.length
    · obtain ⟨p, o, rfl, -, hbl, hcell⟩ := hK (by omega)
      obtain ⟨s, hs⟩ := exists_at hlt
      obtain ⟨es, -, hcs, rfl, hss⟩ := hcell k s hs
      have hc0 := (hbr.cell (p := ⟨p, o + k * 1 + 0, none⟩) hbl).trans (hcs 0 (by omega))
      simp at hc0
      have hbr1 := Nat.lt_of_lt_of_le hbl hbr.size
      have hk0 : (0 : Int) ≤ k := by omega
      have hk1 : (k : Int) < dks.length := by omega
      have HS := Lib.hid hs
      have HCl := Lib.hid hcell
      clear hcs hcell hs hK hA
      go_upto_region 8 with fail
      go_cut [104] from 88 to 104 (fun s wx => s = .bool (!keyOk dks k) ∧ Below wr.heap.size wr wx)
      case first =>
        rcases hst : strB s with _ | _
        · have HV := Lib.hid (keyOk_none HS.out hst)
          go_wp2_with (go_at_call 114; refine (c_impl_stringOk _ _ (HT0.out.below hbr) (by omega)).mono ?_; rintro e w9 ⟨rfl, hb9⟩)
          go_meet
          exact ⟨by rw [HV.out]; rfl, hb9⟩
        · rcases k with _ | j
          · have HV := Lib.hid ((keyOk_zero HS.out).trans hst)
            go_wp2_with (go_at_call 114; refine (c_impl_stringOk _ _ (HT0.out.below hbr) (by omega)).mono ?_; rintro e w9 ⟨rfl, hb9⟩)
            go_meet
            exact ⟨by rw [HV.out]; rfl, hb9⟩
          · obtain ⟨r, hr⟩ := exists_at (show j < dks.length by omega)
            obtain ⟨es, -, hcs, rfl, hrs⟩ := HCl.out j r hr
            have hd0 := (hbr.cell (p := ⟨p, o + j * 1 + 0, none⟩) hbl).trans (hcs 0 (by omega))
            simp at hd0
            have hj0 : (0 : Int) < ((j + 1 : Nat) : Int) := by omega
            obtain ⟨y, hy⟩ : ∃ y : Nat, y = j + 1 := ⟨_, rfl⟩
            have HV := Lib.hid ((keyOk_succ HS.out hr).trans (by rw [hst, Bool.true_and]))
            have HY := Lib.hid hy
            have hji : (y : Int) - 1 = (j : Int) := by omega
            have hj1 : (0 : Int) ≤ j := by omega
            have hj2 : (j : Int) < dks.length := by omega
            rw [← hy] at hc0 hk0 hk1 hj0 HV ⊢
            clear hcs hr hy hk hlt
            rcases hls : lessS r s with _ | _
            · have g1 : Op.bytesLess r.toList s.toList = false := hls
              have HV2 := Lib.hid (HV.out.trans hls)
              clear hls HV
              go_wp2_with (go_at_call 114; refine (c_impl_stringOk _ _ (HT0.out.below hbr) (by omega)).mono ?_; rintro e w9 ⟨rfl, hb9⟩; obtain ⟨m0, m1, m2, m3, m4, m5, mf⟩ := row6 ((hb9.block _ l0).trans HT.out); have lm := Nat.lt_of_lt_of_le l0 hb9.size; have e0 := (hb9.cell (p := ⟨p, o + j, none⟩) hbr1).trans hd0; have le := Nat.lt_of_lt_of_le hbr1 hb9.size)
              all_goals
                have hy := HY.out
                subst hy
                go_meet
                exact ⟨by rw [HV2.out]; simp_all, hb9⟩
            · have g1 : Op.bytesLess r.toList s.toList = true := hls
              have HV2 := Lib.hid (HV.out.trans hls)
              clear hls HV
              go_wp2_with (go_at_call 114; refine (c_impl_stringOk _ _ (HT0.out.below hbr) (by omega)).mono ?_; rintro e w9 ⟨rfl, hb9⟩; obtain ⟨m0, m1, m2, m3, m4, m5, mf⟩ := row6 ((hb9.block _ l0).trans HT.out); have lm := Nat.lt_of_lt_of_le l0 hb9.size; have e0 := (hb9.cell (p := ⟨p, o + j, none⟩) hbr1).trans hd0; have le := Nat.lt_of_lt_of_le hbr1 hb9.size)
              all_goals
                have hy := HY.out
                subst hy
                go_meet
                exact ⟨by rw [HV2.out]; simp_all, hb9⟩
      case rest =>
        obtain ⟨rfl, hb9⟩ := hcut
        have HT9 := Lib.hid ((hb9.block _ l0).trans HT.out)
        have hbr9 := hbr.trans (hb9.mono hbr.size)
        obtain ⟨q3, hq3⟩ : ∃ q, q = keyOk dks k := ⟨_, rfl⟩
        rw [← hq3]
        rcases q3 with _ | _
        · have HX := Lib.hid (show z = false by rw [hE.out, allR_bad _ k _ hlt hq3.symm]; rfl)
          clear hE hq3
          go_wp2_with fail
          go_ret
          exact ⟨ret_bool HX.out.symm, bel⟩
        · have Hn := Lib.hid (show allR (k + 1) (keyOk dks) = true by rw [allR_succ, Hall.out, ← hq3]; rfl)
          clear hq3 hbr hb9 hc0 x0 x1 x2 x3 x4 x5 xf
          go_wp2_with fail
          go_roundw
          case rel => exact ⟨k + 1, by omega, by go_num, Hn.out, HT9.out, hbr9⟩
          case measure => simp [intOf]; omega
    · obtain rfl : k = dks.length := by omega
      have hE2 := Lib.hid (show z = allR dkd.length (kidAt (shapeT n) dkd) by rw [hE.out, Hall.out]; rfl)
      have hke : decide (dks.length < dks.length) = false := decide_eq_false (Nat.lt_irrefl _)
      clear hK hE Hall
      go_wp2_with fail
      go_loopw [109] (fun v wr => ∃ k : Nat, k ≤ dkd.length ∧ v = .int .i64 k ∧ allR k (kidAt (shapeT n) dkd) = true ∧ Below w.heap.size w wr) (fun v _ => dkd.length - (intOf v).toNat)
      case atStart => exact ⟨0, Nat.zero_le _, rfl, rfl, hbr⟩
      case round =>
        have hb0 := hbr
        clear hbr hb0 HT x0 x1 x2 x3 x4 x5 xf l0
        obtain ⟨k, hk, rfl, hall, hbr⟩ := hrel
        have Hall := Lib.hid hall
        clear hall
        by_cases hlt : k < dkd.length
        · obtain ⟨p, o, rfl, -, hbl, hcell⟩ := hA (by omega)
          obtain ⟨t, ht⟩ := exists_at hlt
          obtain ⟨es, -, hcs, hC⟩ := hcell k t ht
          obtain ⟨eA4, ec4, eA5, ec5, rfl, ea0, ea2, ea3⟩ := hC.flat
          have hc0 := (hbr.cell (p := ⟨p, o + k * 6 + 0, none⟩) (by simp; omega)).trans (hcs 0 (by omega))
          simp at hc0
          have hc1 := (hbr.cell (p := ⟨p, o + k * 6 + 1, none⟩) (by simp; omega)).trans (hcs 1 (by omega))
          simp at hc1
          have hc2 := (hbr.cell (p := ⟨p, o + k * 6 + 2, none⟩) (by simp; omega)).trans (hcs 2 (by omega))
          simp at hc2
          have hc3 := (hbr.cell (p := ⟨p, o + k * 6 + 3, none⟩) (by simp; omega)).trans (hcs 3 (by omega))
          simp at hc3
          have hc4 := (hbr.cell (p := ⟨p, o + k * 6 + 4, none⟩) (by simp; omega)).trans (hcs 4 (by omega))
          simp at hc4
          have hc5 := (hbr.cell (p := ⟨p, o + k * 6 + 5, none⟩) (by simp; omega)).trans (hcs 5 (by omega))
          simp at hc5
          have hbr1 := Nat.lt_of_lt_of_le hbl hbr.size
          have hk0 : (0 : Int) ≤ k := by omega
          have hk1 : (k : Int) < dkd.length := by omega
          have HC := Lib.hid hC
          have HKi := Lib.hid (kidAt_eq (f := shapeT n) ht)
          clear hcs hcell hA hC ht
          rcases q0 : shapeT n t with _ | _
          · have HX := Lib.hid (show z = false by rw [hE2.out]; exact allR_bad _ k _ hlt (by rw [HKi.out, q0]))
            go_wp2_with (go_at_call 82; refine (ih t _ _ _ (HC.out.now bel) (HT0.out.below bel)).mono ?_; rintro e w9 ⟨rfl, hb9⟩)
            go_ret
            exact ⟨ret_bool HX.out.symm, bel⟩
          · have Hn := Lib.hid (show allR (k + 1) (kidAt (shapeT n) dkd) = true by rw [allR_succ, Hall.out, HKi.out, q0]; rfl)
            go_wp2_with (go_at_call 82; refine (ih t _ _ _ (HC.out.now bel) (HT0.out.below bel)).mono ?_; rintro e w9 ⟨rfl, hb9⟩)
            go_roundw
            case rel => ((repeat apply Exists.intro); exact ⟨⟨k + 1, by omega, by go_num, Hn.out, bel⟩, rfl⟩)
            case measure => simp [intOf]; omega
        · obtain rfl : k = dkd.length := by omega
          have HX := Lib.hid (show z = true by rw [hE2.out]; exact Hall.out)
          clear hA
          go_wp2_with fail
          go_ret
          exact ⟨ret_bool HX.out.symm, bel⟩
theorem all_nodI : ∀ n, T_nodI n
  | 0 => fun _ _ _ _ h _ => (C_Tree.none h).elim
  | n + 1 => of_nodI n (all_nodI n)
def T_nodS (n : Nat) : Prop := ∀ (d : TreeD) (cs : List Value) (w : World) (lo : Nat), C_Tree n lo w.heap.size w d cs →
    Calls Tryz.prog 50 #[.agg cs.toArray] w fun e w' => e = .returned (.bool (shapeT n d)) ∧ Below w.heap.size w w'
set_option maxHeartbeats 16000000 in
set_option maxRecDepth 10000 in
theorem of_nodS (n : Nat) (ih : T_nodS n) : T_nodS (n + 1) := by
  intro d cs w lo h
  obtain ⟨v4, v5, rfl, a0, a2, a3, a4, a5⟩ := C_Tree.out h
  obtain ⟨A4, c4, rfl, hlk, hck, hK⟩ := a4
  obtain ⟨A5, c5, rfl, hlc, hcc, hA⟩ := a5
  have Hf := Lib.hid (shapeT_succ n d)
  clear h
  obtain ⟨dk, df, dn, dt, dks, dkd⟩ := d
  simp only at a0 a2 a3 hlk hK hlc hA ⊢
  obtain ⟨z, hz⟩ : ∃ z, z = shapeT (n + 1) ⟨dk, df, dn, dt, dks, dkd⟩ := ⟨_, rfl⟩
  rw [← hz] at Hf ⊢
  simp only at Hf
  clear hz
  obtain ⟨W0, hW0⟩ : ∃ W, W = w.alloc (.cells #[.int .i64 dk, .bool df, .int .i64 dn, .string dt, .slice A4 dks.length c4, .slice A5 dkd.length c5] 27) := ⟨_, rfl⟩
  have hB0 : Below w.heap.size w W0 := by rw [hW0]; exact bel
  have HR0 := Lib.hid (show W0.heap[w.heap.size]? = some (.cells #[.int .i64 dk, .bool df, .int .i64 dn, .string dt, .slice A4 dks.length c4, .slice A5 dkd.length c5] 27 (0, 0)) by rw [hW0]; exact heap_at rfl)
  have HW0 := Lib.hid hW0
  clear hW0
  go_enter Tryz.func50, Tryz.ntmps50
  go_upto_region 1 with fail
  obtain ⟨x0, x1, x2, x3, x4, x5, xf⟩ := row6 HR0.out
  have l0 := row_lt HR0.out
  go_cut [65] from 5 to 65 (fun s65 wx => s65 = .bool (!(!badH ⟨dk, df, dn, dt, dks, dkd⟩ && strB dt)) ∧ Below W0.heap.size W0 wx)
  case first =>
    rw [← HW0.out]
    clear Hf hK hA HW0
    have hbb : Below W0.heap.size W0 W0 := Below.refl _ _
    go_wp2_with (first | (go_at_call 59; refine (c_spec_l01In _ _ _ _).mono ?_; rintro e w1 ⟨rfl, rfl⟩) | (go_at_call 87; refine (c_spec_l08Text _ _).mono ?_; rintro e w9 ⟨rfl, hb9⟩))
    all_goals
      (try simp only [Bool.not_eq_true] at *)
      (try subst_vars)
      go_meet
      refine ⟨?_, by first | exact hb9 | exact Below.refl _ _⟩
      congr 1
    all_goals (unfold badH; simp_all; done)
  case rest =>
  obtain ⟨rfl, hb1⟩ := hcut
  have HR1 := Lib.hid ((hb1.block _ l0).trans HR0.out)
  have hB1 := hB0.trans (hb1.mono hB0.size)
  obtain ⟨q1, hq1⟩ : ∃ q, q = (!badH ⟨dk, df, dn, dt, dks, dkd⟩ && strB dt) := ⟨_, rfl⟩
  have hE0 := Lib.hid (show z = ((!badH ⟨dk, df, dn, dt, dks, dkd⟩ && strB dt) && lensOk ⟨dk, df, dn, dt, dks, dkd⟩ && allR dks.length (keyOk dks) && allR dkd.length (kidAt (shapeT n) dkd)) from Hf.out)
  rw [← hq1] at hE0 ⊢
  clear hq1 Hf HR0 HW0 hB0 hb1 x0 x1 x2 x3 x4 x5 xf l0
  rcases q1 with _ | _
  · have HX := Lib.hid (show z = false by rw [hE0.out]; rfl)
    go_wp2_with fail
    go_ret
    exact ⟨ret_bool HX.out.symm, bel⟩
  obtain ⟨x0, x1, x2, x3, x4, x5, xf⟩ := row6 HR1.out
  have l0 := row_lt HR1.out
  have hE1 := Lib.hid (show z = (lensOk ⟨dk, df, dn, dt, dks, dkd⟩ && allR dks.length (keyOk dks) && allR dkd.length (kidAt (shapeT n) dkd)) by rw [hE0.out]; rfl)
  clear hE0
  go_upto_region 3 with fail
  go_cut [77] from 66 to 77 (fun s77 wx => s77 = .bool (!lensOk ⟨dk, df, dn, dt, dks, dkd⟩) ∧ wx = wc)
  case first =>
    clear hE1 hK hA
    by_cases hk6 : dk = 6
    · by_cases hln : dks.length = dkd.length
      · have d1 : (dk == 6) = true := by simp [hk6]
        have d2 : ((dks.length : Int) != dkd.length) = false := by simp [hln]
        have HV := Lib.hid (show lensOk ⟨dk, df, dn, dt, dks, dkd⟩ = true by unfold lensOk; simp [hk6, hln])
        clear hk6 hln
        go_wp2_with fail
        go_meet
        exact ⟨by rw [HV.out]; rfl, rfl⟩
      · have d1 : (dk == 6) = true := by simp [hk6]
        have d2 : ((dks.length : Int) != dkd.length) = true := bne_iff_ne.2 (by omega)
        have HV := Lib.hid (show lensOk ⟨dk, df, dn, dt, dks, dkd⟩ = false by unfold lensOk; simp [hk6, hln])
        clear hk6 hln
        go_wp2_with fail
        go_meet
        exact ⟨by rw [HV.out]; rfl, rfl⟩
    · have d1 : (dk == 6) = false := beq_eq_false_iff_ne.2 hk6
      have HV := Lib.hid (show lensOk ⟨dk, df, dn, dt, dks, dkd⟩ = true by unfold lensOk; simp [hk6])
      clear hk6
      go_wp2_with fail
      go_meet
      exact ⟨by rw [HV.out]; rfl, rfl⟩
  case rest =>
  obtain ⟨rfl, hwc⟩ := hcut
  subst hwc
  obtain ⟨q2, hq2⟩ : ∃ q, q = lensOk ⟨dk, df, dn, dt, dks, dkd⟩ := ⟨_, rfl⟩
  rw [← hq2] at hE1 ⊢
  clear hq2
  rcases q2 with _ | _
  · have HX := Lib.hid (show z = false by rw [hE1.out]; rfl)
    go_wp2_with fail
    go_ret
    exact ⟨ret_bool HX.out.symm, bel⟩
  have hE := Lib.hid (show z = (allR dks.length (keyOk dks) && allR dkd.length (kidAt (shapeT n) dkd)) by rw [hE1.out]; rfl)
  clear hE1
  go_wp2_with fail
  go_loopw [3] (fun v wr => ∃ k : Nat, k ≤ dks.length ∧ v = .int .i64 k ∧ allR k (keyOk dks) = true ∧ wr.heap[w.heap.size]? = some (.cells #[.int .i64 dk, .bool df, .int .i64 dn, .string dt, .slice A4 dks.length c4, .slice A5 dkd.length c5] 27 (0, 0)) ∧ Below w.heap.size w wr) (fun v _ => dks.length - (intOf v).toNat)
  case atStart => exact ⟨0, Nat.zero_le _, rfl, rfl, HR1.out, hB1⟩
  case round =>
    clear x0 x1 x2 x3 x4 x5 xf l0 HR1 hB1
    obtain ⟨k, hk, rfl, hall, hT, hbr⟩ := hrel
    have HT := Lib.hid hT
    have Hall := Lib.hid hall
    clear hT hall
    obtain ⟨x0, x1, x2, x3, x4, x5, xf⟩ := row6 HT.out
    have l0 := row_lt HT.out
    by_cases hlt : k < dks.length
    · obtain ⟨p, o, rfl, -, hbl, hcell⟩ := hK (by omega)
      obtain ⟨s, hs⟩ := exists_at hlt
      obtain ⟨es, -, hcs, rfl, hss⟩ := hcell k s hs
      have hc0 := (hbr.cell (p := ⟨p, o + k * 1 + 0, none⟩) hbl).trans (hcs 0 (by omega))
      simp at hc0
      have hbr1 := Nat.lt_of_lt_of_le hbl hbr.size
      have hk0 : (0 : Int) ≤ k := by omega
      have hk1 : (k : Int) < dks.length := by omega
      have HS := Lib.hid hs
      have HCl := Lib.hid hcell
      clear hcs hcell hs hK hA
      go_upto_region 8 with fail
      go_cut [109] from 85 to 109 (fun s wx => s = .bool (!keyOk dks k) ∧ Below wr.heap.size wr wx)
      case first =>
        rcases hst : strB s with _ | _
        · have HV := Lib.hid (keyOk_none HS.out hst)
          refine wp_region_det 25 (by kernel_rfl) (by kernel_rfl) (by decide) ?_
          iterate 25 ((try simp only [Bool.not_true]); apply Exists.intro; refine And.intro ?_ ?_; (focus (intro W hW; (try simp only [Act.put, List.setIfInBounds_toArray, List.set_cons_zero, List.set_cons_succ]); first | (exact wpList_skip rfl ⟨rfl, rfl, Below.refl _ _⟩) | (obtain ⟨hcW, hfW⟩ := bcell hW; have hsW := hW.size; (try simp at hsW); (try have hsW0 := lt_of_succ_le hsW); (try (have hsW1 := lt_pred hsW; (try (have hsW2 := lt_pred hsW1)))); go_wp2_with (first | (go_at_call 87; refine (c_spec_l08Text _ _).mono ?_; rintro e w9 ⟨rfl, hb9⟩)); exact ⟨rfl, rfl, bel⟩))))
          intro wq hbwq
          (try simp only [Act.put, List.setIfInBounds_toArray, List.set_cons_zero, List.set_cons_succ])
          (try simp only [List.drop_succ_cons, List.drop_nil])
          have hb := hbwq
          go_wp2_with fail
          go_meet
          exact ⟨by rw [HV.out]; rfl, hb⟩
        · by_cases hk00 : k = 0
          · have HV := Lib.hid (show keyOk dks k = true by rw [← hst]; have h := HS.out; subst hk00; exact keyOk_zero h)
            have d0 : decide (0 < k) = false := decide_eq_false (by omega)
            have dI : decide ((0 : Int) < k) = false := decide_eq_false (by omega)
            clear hk00
            refine wp_region_det 25 (by kernel_rfl) (by kernel_rfl) (by decide) ?_
            iterate 25 ((try simp only [Bool.not_true]); apply Exists.intro; refine And.intro ?_ ?_; (focus (intro W hW; (try simp only [Act.put, List.setIfInBounds_toArray, List.set_cons_zero, List.set_cons_succ]); first | (exact wpList_skip rfl ⟨rfl, rfl, Below.refl _ _⟩) | (obtain ⟨hcW, hfW⟩ := bcell hW; have hsW := hW.size; (try simp at hsW); (try have hsW0 := lt_of_succ_le hsW); (try (have hsW1 := lt_pred hsW; (try (have hsW2 := lt_pred hsW1)))); go_wp2_with (first | (go_at_call 87; refine (c_spec_l08Text _ _).mono ?_; rintro e w9 ⟨rfl, hb9⟩)); exact ⟨rfl, rfl, bel⟩))))
            intro wq hbwq
            (try simp only [Act.put, List.setIfInBounds_toArray, List.set_cons_zero, List.set_cons_succ])
            (try simp only [List.drop_succ_cons, List.drop_nil])
            have hb := hbwq
            go_wp2_with fail
            go_meet
            exact ⟨by rw [HV.out]; rfl, hb⟩
          · obtain ⟨j, hj⟩ : ∃ j, k = j + 1 := ⟨k - 1, by omega⟩
            obtain ⟨r, hr⟩ := exists_at (show j < dks.length by omega)
            obtain ⟨es, -, hcs, rfl, hrs⟩ := HCl.out j r hr
            have hd0 := (hbr.cell (p := ⟨p, o + j * 1 + 0, none⟩) hbl).trans (hcs 0 (by omega))
            simp at hd0
            have d0 : decide (0 < k) = true := decide_eq_true (by omega)
            have dI : decide ((0 : Int) < k) = true := decide_eq_true (by omega)
            have HV := Lib.hid (show keyOk dks k = lessS r s by have h := HS.out; subst hj; rw [keyOk_succ h hr, hst, Bool.true_and])
            have hji : (k : Int) - 1 = (j : Int) := by omega
            have hj1 : (0 : Int) ≤ j := by omega
            have hj2 : (j : Int) < dks.length := by omega
            clear hcs hr hk hlt hj hk00
            rcases hls : lessS r s with _ | _
            · have g1 : Op.bytesLess r.toList s.toList = false := hls
              have HV2 := Lib.hid (HV.out.trans hls)
              clear hls HV
              refine wp_region_det 25 (by kernel_rfl) (by kernel_rfl) (by decide) ?_
              iterate 25 ((try simp only [Bool.not_true]); apply Exists.intro; refine And.intro ?_ ?_; (focus (intro W hW; (try simp only [Act.put, List.setIfInBounds_toArray, List.set_cons_zero, List.set_cons_succ]); first | (exact wpList_skip rfl ⟨rfl, rfl, Below.refl _ _⟩) | (obtain ⟨hcW, hfW⟩ := bcell hW; have hsW := hW.size; (try simp at hsW); (try have hsW0 := lt_of_succ_le hsW); (try (have hsW1 := lt_pred hsW; (try (have hsW2 := lt_pred hsW1)))); go_wp2_with (first | (go_at_call 87; refine (c_spec_l08Text _ _).mono ?_; rintro e w9 ⟨rfl, hb9⟩)); exact ⟨rfl, rfl, bel⟩))))
              intro wq hbwq
              (try simp only [Act.put, List.setIfInBounds_toArray, List.set_cons_zero, List.set_cons_succ])
              (try simp only [List.drop_succ_cons, List.drop_nil])
              have hb := hbwq
              go_wp2_with fail
              go_meet
              exact ⟨by rw [HV2.out]; simp_all, hb⟩
            · have g1 : Op.bytesLess r.toList s.toList = true := hls
              have HV2 := Lib.hid (HV.out.trans hls)
              clear hls HV
              refine wp_region_det 25 (by kernel_rfl) (by kernel_rfl) (by decide) ?_
              iterate 25 ((try simp only [Bool.not_true]); apply Exists.intro; refine And.intro ?_ ?_; (focus (intro W hW; (try simp only [Act.put, List.setIfInBounds_toArray, List.set_cons_zero, List.set_cons_succ]); first | (exact wpList_skip rfl ⟨rfl, rfl, Below.refl _ _⟩) | (obtain ⟨hcW, hfW⟩ := bcell hW; have hsW := hW.size; (try simp at hsW); (try have hsW0 := lt_of_succ_le hsW); (try (have hsW1 := lt_pred hsW; (try (have hsW2 := lt_pred hsW1)))); go_wp2_with (first | (go_at_call 87; refine (c_spec_l08Text _ _).mono ?_; rintro e w9 ⟨rfl, hb9⟩)); exact ⟨rfl, rfl, bel⟩))))
              intro wq hbwq
              (try simp only [Act.put, List.setIfInBounds_toArray, List.set_cons_zero, List.set_cons_succ])
              (try simp only [List.drop_succ_cons, List.drop_nil])
              have hb := hbwq
              go_wp2_with fail
              go_meet
              exact ⟨by rw [HV2.out]; simp_all, hb⟩
      case rest =>
        obtain ⟨rfl, hb9⟩ := hcut
        have HT9 := Lib.hid ((hb9.block _ l0).trans HT.out)
        have hbr9 := hbr.trans (hb9.mono hbr.size)
        obtain ⟨q3, hq3⟩ : ∃ q, q = keyOk dks k := ⟨_, rfl⟩
        rw [← hq3]
        rcases q3 with _ | _
        · have HX := Lib.hid (show z = false by rw [hE.out, allR_bad _ k _ hlt hq3.symm]; rfl)
          clear hE hq3
          go_wp2_with fail
          go_ret
          exact ⟨ret_bool HX.out.symm, bel⟩
        · have Hn := Lib.hid (show allR (k + 1) (keyOk dks) = true by rw [allR_succ, Hall.out, ← hq3]; rfl)
          clear hq3 hbr hb9 hc0 x0 x1 x2 x3 x4 x5 xf
          go_wp2_with fail
          go_roundw
          case rel => exact ⟨k + 1, by omega, by go_num, Hn.out, HT9.out, hbr9⟩
          case measure => simp [intOf]; omega
    · obtain rfl : k = dks.length := by omega
      have hE2 := Lib.hid (show z = allR dkd.length (kidAt (shapeT n) dkd) by rw [hE.out, Hall.out]; rfl)
      have hke : decide (dks.length < dks.length) = false := decide_eq_false (Nat.lt_irrefl _)
      clear hK hE Hall
      go_wp2_with fail
      go_loopw [4] (fun v wr => ∃ k : Nat, k ≤ dkd.length ∧ v = .int .i64 k ∧ allR k (kidAt (shapeT n) dkd) = true ∧ wr.heap[w.heap.size]? = some (.cells #[.int .i64 dk, .bool df, .int .i64 dn, .string dt, .slice A4 dks.length c4, .slice A5 dkd.length c5] 27 (0, 0)) ∧ Below w.heap.size w wr) (fun v _ => dkd.length - (intOf v).toNat)
      case atStart => exact ⟨0, Nat.zero_le _, rfl, rfl, HT.out, hbr⟩
      case round =>
        have hb0 := hbr
        clear hbr hb0 HT x0 x1 x2 x3 x4 x5 xf l0
        obtain ⟨k, hk, rfl, hall, hT, hbr⟩ := hrel
        have HT := Lib.hid hT
        have Hall := Lib.hid hall
        clear hall hT
        obtain ⟨x0, x1, x2, x3, x4, x5, xf⟩ := row6 HT.out
        have l0 := row_lt HT.out
        by_cases hlt : k < dkd.length
        · obtain ⟨p, o, rfl, -, hbl, hcell⟩ := hA (by omega)
          obtain ⟨t, ht⟩ := exists_at hlt
          obtain ⟨es, -, hcs, hC⟩ := hcell k t ht
          obtain ⟨eA4, ec4, eA5, ec5, rfl, ea0, ea2, ea3⟩ := hC.flat
          have hc0 := (hbr.cell (p := ⟨p, o + k * 6 + 0, none⟩) (by simp; omega)).trans (hcs 0 (by omega))
          simp at hc0
          have hc1 := (hbr.cell (p := ⟨p, o + k * 6 + 1, none⟩) (by simp; omega)).trans (hcs 1 (by omega))
          simp at hc1
          have hc2 := (hbr.cell (p := ⟨p, o + k * 6 + 2, none⟩) (by simp; omega)).trans (hcs 2 (by omega))
          simp at hc2
          have hc3 := (hbr.cell (p := ⟨p, o + k * 6 + 3, none⟩) (by simp; omega)).trans (hcs 3 (by omega))
          simp at hc3
          have hc4 := (hbr.cell (p := ⟨p, o + k * 6 + 4, none⟩) (by simp; omega)).trans (hcs 4 (by omega))
          simp at hc4
          have hc5 := (hbr.cell (p := ⟨p, o + k * 6 + 5, none⟩) (by simp; omega)).trans (hcs 5 (by omega))
          simp at hc5
          have hbr1 := Nat.lt_of_lt_of_le hbl hbr.size
          have hk0 : (0 : Int) ≤ k := by omega
          have hk1 : (k : Int) < dkd.length := by omega
          have HC := Lib.hid hC
          have HKi := Lib.hid (kidAt_eq (f := shapeT n) ht)
          clear hcs hcell hA hC ht
          rcases q0 : shapeT n t with _ | _
          · have HX := Lib.hid (show z = false by rw [hE2.out]; exact allR_bad _ k _ hlt (by rw [HKi.out, q0]))
            go_wp2_with (go_at_call 50; refine (ih t _ _ _ (HC.out.now bel)).mono ?_; rintro e w9 ⟨rfl, hb9⟩)
            go_ret
            exact ⟨ret_bool HX.out.symm, bel⟩
          · have Hn := Lib.hid (show allR (k + 1) (kidAt (shapeT n) dkd) = true by rw [allR_succ, Hall.out, HKi.out, q0]; rfl)
            go_wp2_with (go_at_call 50; refine (ih t _ _ _ (HC.out.now bel)).mono ?_; rintro e w9 ⟨rfl, hb9⟩)
            have HT9 := Lib.hid ((hb9.block _ l0).trans HT.out)
            go_roundw
            case rel => ((repeat apply Exists.intro); exact ⟨⟨k + 1, by omega, by go_num, Hn.out, HT9.out, bel⟩, rfl⟩)
            case measure => simp [intOf]; omega
        · obtain rfl : k = dkd.length := by omega
          have HX := Lib.hid (show z = true by rw [hE2.out]; exact Hall.out)
          clear hA
          go_wp2_with fail
          go_ret
          exact ⟨ret_bool HX.out.symm, bel⟩
theorem all_nodS : ∀ n, T_nodS n
  | 0 => fun _ _ _ _ h => (C_Tree.none h).elim
  | n + 1 => of_nodS n (all_nodS n)
end Go.Proofs.YtffelpdefjkeaaaGreatDoor
namespace Go.Proofs.YtffelpdefjkeaaaGreatDoor
open Go.RowKit
def okT (n : Nat) (d : TreeD) : Bool := decide (depthT n d ≤ 8) && decide (sizeT n d ≤ 300) && shapeT n d
theorem okT_def (n : Nat) (d : TreeD) : okT n d = (decide (depthT n d ≤ 8) && decide (sizeT n d ≤ 300) && shapeT n d) := rfl
set_option maxHeartbeats 2000000 in
theorem c_impl_TreeOk (n : Nat) (d : TreeD) (cs : List Value) (w : World) (lo : Nat) (h : C_Tree n lo w.heap.size w d cs) (hz : sizeT n d ≤ 1073741824) (hT : Tabs w) :
    Calls Tryz.prog 45 #[.agg cs.toArray] w fun e w' => e = .returned (.bool (okT n d)) ∧ Below w.heap.size w w' := by
  have Hf := Lib.hid (okT_def n d)
  have HD := Lib.hid (fun (w' : World) (hb : Below w.heap.size w w') => all_DepthI n d cs w' lo (h.now hb) hz)
  have HS := Lib.hid (fun (w' : World) (hb : Below w.heap.size w w') => all_SizeI n d cs w' lo (h.now hb) hz)
  have HN := Lib.hid (fun (w' : World) (hb : Below w.heap.size w w') => all_nodI n d cs w' lo (h.now hb) (hT.below hb))
  have hds := depth_size n d
  obtain ⟨A4, c4, A5, c5, rfl⟩ := C_Tree.open h
  obtain ⟨x, hx⟩ : ∃ x, x = depthT n d := ⟨_, rfl⟩
  obtain ⟨y, hy⟩ : ∃ y, y = sizeT n d := ⟨_, rfl⟩
  obtain ⟨z, hzz⟩ : ∃ z, z = shapeT n d := ⟨_, rfl⟩
  rw [← hx, ← hy, ← hzz] at Hf
  rw [← hx] at HD hds
  rw [← hy] at HS hz hds
  rw [← hzz] at HN
  clear h hx hy hzz hT
  by_cases h8 : x ≤ 8
  · have d8 : decide ((x : Int) ≤ 8) = true := decide_eq_true (by omega)
    by_cases h3 : y ≤ 300
    · have d3 : decide ((y : Int) ≤ 300) = true := decide_eq_true (by omega)
      have HX := Lib.hid (show okT n d = z by rw [Hf.out, decide_eq_true h8, decide_eq_true h3]; rfl)
      clear h8 h3
      go_enter Tryz.func45, Tryz.ntmps45
      go_wp2_with (first | (go_at_call 80; refine (HD.out _ bel).mono ?_; rintro e w1 ⟨rfl, hb⟩; (first | (have hcu2 := Cum.join hcu hb; (try clear hcu); (try clear hc); (try clear hfz); (try clear hsz); (try clear hs0); (try clear hs1); (try clear hs2); (try clear hs3); (try clear hs4); ) | have hcu2 := Cum.mk hb); have hcu := hcu2; clear hcu2; obtain ⟨hc, hfz⟩ := bcell hcu.h; have hsz := hcu.h.size; (try simp at hsz); (try have hs0 := lt_of_succ_le hsz); (try (have hs1 := lt_pred hsz; (try (have hs2 := lt_pred hs1; (try (have hs3 := lt_pred hs2; (try have hs4 := lt_pred hs3)))))))) | (go_at_call 81; refine (HS.out _ bel).mono ?_; rintro e w1 ⟨rfl, hb⟩; (first | (have hcu2 := Cum.join hcu hb; (try clear hcu); (try clear hc); (try clear hfz); (try clear hsz); (try clear hs0); (try clear hs1); (try clear hs2); (try clear hs3); (try clear hs4); ) | have hcu2 := Cum.mk hb); have hcu := hcu2; clear hcu2; obtain ⟨hc, hfz⟩ := bcell hcu.h; have hsz := hcu.h.size; (try simp at hsz); (try have hs0 := lt_of_succ_le hsz); (try (have hs1 := lt_pred hsz; (try (have hs2 := lt_pred hs1; (try (have hs3 := lt_pred hs2; (try have hs4 := lt_pred hs3)))))))) | (go_at_call 82; refine (HN.out _ bel).mono ?_; rintro e w1 ⟨rfl, hb⟩; (first | (have hcu2 := Cum.join hcu hb; (try clear hcu); (try clear hc); (try clear hfz); (try clear hsz); (try clear hs0); (try clear hs1); (try clear hs2); (try clear hs3); (try clear hs4); ) | have hcu2 := Cum.mk hb); have hcu := hcu2; clear hcu2; obtain ⟨hc, hfz⟩ := bcell hcu.h; have hsz := hcu.h.size; (try simp at hsz); (try have hs0 := lt_of_succ_le hsz); (try (have hs1 := lt_pred hsz; (try (have hs2 := lt_pred hs1; (try (have hs3 := lt_pred hs2; (try have hs4 := lt_pred hs3)))))))))
      go_ret
      exact ⟨ret_bool HX.out.symm, bel⟩
    · have d3 : decide ((y : Int) ≤ 300) = false := decide_eq_false (by omega)
      have HX := Lib.hid (show okT n d = false by rw [Hf.out, decide_eq_true h8, decide_eq_false h3]; rfl)
      clear h8 h3
      go_enter Tryz.func45, Tryz.ntmps45
      go_wp2_with (first | (go_at_call 80; refine (HD.out _ bel).mono ?_; rintro e w1 ⟨rfl, hb⟩; (first | (have hcu2 := Cum.join hcu hb; (try clear hcu); (try clear hc); (try clear hfz); (try clear hsz); (try clear hs0); (try clear hs1); (try clear hs2); (try clear hs3); (try clear hs4); ) | have hcu2 := Cum.mk hb); have hcu := hcu2; clear hcu2; obtain ⟨hc, hfz⟩ := bcell hcu.h; have hsz := hcu.h.size; (try simp at hsz); (try have hs0 := lt_of_succ_le hsz); (try (have hs1 := lt_pred hsz; (try (have hs2 := lt_pred hs1; (try (have hs3 := lt_pred hs2; (try have hs4 := lt_pred hs3)))))))) | (go_at_call 81; refine (HS.out _ bel).mono ?_; rintro e w1 ⟨rfl, hb⟩; (first | (have hcu2 := Cum.join hcu hb; (try clear hcu); (try clear hc); (try clear hfz); (try clear hsz); (try clear hs0); (try clear hs1); (try clear hs2); (try clear hs3); (try clear hs4); ) | have hcu2 := Cum.mk hb); have hcu := hcu2; clear hcu2; obtain ⟨hc, hfz⟩ := bcell hcu.h; have hsz := hcu.h.size; (try simp at hsz); (try have hs0 := lt_of_succ_le hsz); (try (have hs1 := lt_pred hsz; (try (have hs2 := lt_pred hs1; (try (have hs3 := lt_pred hs2; (try have hs4 := lt_pred hs3)))))))))
      go_ret
      exact ⟨ret_bool HX.out.symm, bel⟩
  · have d8 : decide ((x : Int) ≤ 8) = false := decide_eq_false (by omega)
    have HX := Lib.hid (show okT n d = false by rw [Hf.out, decide_eq_false h8]; rfl)
    clear h8
    go_enter Tryz.func45, Tryz.ntmps45
    go_wp2_with (go_at_call 80; refine (HD.out _ bel).mono ?_; rintro e w1 ⟨rfl, hb⟩; (first | (have hcu2 := Cum.join hcu hb; (try clear hcu); (try clear hc); (try clear hfz); (try clear hsz); (try clear hs0); (try clear hs1); (try clear hs2); (try clear hs3); (try clear hs4); ) | have hcu2 := Cum.mk hb); have hcu := hcu2; clear hcu2; obtain ⟨hc, hfz⟩ := bcell hcu.h; have hsz := hcu.h.size; (try simp at hsz); (try have hs0 := lt_of_succ_le hsz); (try (have hs1 := lt_pred hsz; (try (have hs2 := lt_pred hs1; (try (have hs3 := lt_pred hs2; (try have hs4 := lt_pred hs3))))))))
    go_ret
    exact ⟨ret_bool HX.out.symm, bel⟩
set_option maxHeartbeats 2000000 in
theorem c_spec_TreeOk (n : Nat) (d : TreeD) (cs : List Value) (w : World) (lo : Nat) (h : C_Tree n lo w.heap.size w d cs) (hz : sizeT n d ≤ 1073741824) :
    Calls Tryz.prog 27 #[.agg cs.toArray] w fun e w' => e = .returned (.bool (okT n d)) ∧ Below w.heap.size w w' := by
  have Hf := Lib.hid (okT_def n d)
  have HD := Lib.hid (fun (w' : World) (hb : Below w.heap.size w w') => all_DepthS n d cs w' lo (h.now hb) hz)
  have HS := Lib.hid (fun (w' : World) (hb : Below w.heap.size w w') => all_SizeS n d cs w' lo (h.now hb) hz)
  have HN := Lib.hid (fun (w' : World) (hb : Below w.heap.size w w') => all_nodS n d cs w' lo (h.now hb))
  have hds := depth_size n d
  obtain ⟨A4, c4, A5, c5, rfl⟩ := C_Tree.open h
  obtain ⟨x, hx⟩ : ∃ x, x = depthT n d := ⟨_, rfl⟩
  obtain ⟨y, hy⟩ : ∃ y, y = sizeT n d := ⟨_, rfl⟩
  obtain ⟨z, hzz⟩ : ∃ z, z = shapeT n d := ⟨_, rfl⟩
  rw [← hx, ← hy, ← hzz] at Hf
  rw [← hx] at HD hds
  rw [← hy] at HS hz hds
  rw [← hzz] at HN
  clear h hx hy hzz
  by_cases h8 : x ≤ 8
  · have d8 : decide ((x : Int) ≤ 8) = true := decide_eq_true (by omega)
    by_cases h3 : y ≤ 300
    · have d3 : decide ((y : Int) ≤ 300) = true := decide_eq_true (by omega)
      have HX := Lib.hid (show okT n d = z by rw [Hf.out, decide_eq_true h8, decide_eq_true h3]; rfl)
      clear h8 h3
      go_enter Tryz.func27, Tryz.ntmps27
      go_wp2_with (first | (go_at_call 48; refine (HD.out _ bel).mono ?_; rintro e w1 ⟨rfl, hb⟩; (first | (have hcu2 := Cum.join hcu hb; (try clear hcu); (try clear hc); (try clear hfz); (try clear hsz); (try clear hs0); (try clear hs1); (try clear hs2); (try clear hs3); (try clear hs4); ) | have hcu2 := Cum.mk hb); have hcu := hcu2; clear hcu2; obtain ⟨hc, hfz⟩ := bcell hcu.h; have hsz := hcu.h.size; (try simp at hsz); (try have hs0 := lt_of_succ_le hsz); (try (have hs1 := lt_pred hsz; (try (have hs2 := lt_pred hs1; (try (have hs3 := lt_pred hs2; (try have hs4 := lt_pred hs3)))))))) | (go_at_call 49; refine (HS.out _ bel).mono ?_; rintro e w1 ⟨rfl, hb⟩; (first | (have hcu2 := Cum.join hcu hb; (try clear hcu); (try clear hc); (try clear hfz); (try clear hsz); (try clear hs0); (try clear hs1); (try clear hs2); (try clear hs3); (try clear hs4); ) | have hcu2 := Cum.mk hb); have hcu := hcu2; clear hcu2; obtain ⟨hc, hfz⟩ := bcell hcu.h; have hsz := hcu.h.size; (try simp at hsz); (try have hs0 := lt_of_succ_le hsz); (try (have hs1 := lt_pred hsz; (try (have hs2 := lt_pred hs1; (try (have hs3 := lt_pred hs2; (try have hs4 := lt_pred hs3)))))))) | (go_at_call 50; refine (HN.out _ bel).mono ?_; rintro e w1 ⟨rfl, hb⟩; (first | (have hcu2 := Cum.join hcu hb; (try clear hcu); (try clear hc); (try clear hfz); (try clear hsz); (try clear hs0); (try clear hs1); (try clear hs2); (try clear hs3); (try clear hs4); ) | have hcu2 := Cum.mk hb); have hcu := hcu2; clear hcu2; obtain ⟨hc, hfz⟩ := bcell hcu.h; have hsz := hcu.h.size; (try simp at hsz); (try have hs0 := lt_of_succ_le hsz); (try (have hs1 := lt_pred hsz; (try (have hs2 := lt_pred hs1; (try (have hs3 := lt_pred hs2; (try have hs4 := lt_pred hs3)))))))))
      go_ret
      exact ⟨ret_bool HX.out.symm, bel⟩
    · have d3 : decide ((y : Int) ≤ 300) = false := decide_eq_false (by omega)
      have HX := Lib.hid (show okT n d = false by rw [Hf.out, decide_eq_true h8, decide_eq_false h3]; rfl)
      clear h8 h3
      go_enter Tryz.func27, Tryz.ntmps27
      go_wp2_with (first | (go_at_call 48; refine (HD.out _ bel).mono ?_; rintro e w1 ⟨rfl, hb⟩; (first | (have hcu2 := Cum.join hcu hb; (try clear hcu); (try clear hc); (try clear hfz); (try clear hsz); (try clear hs0); (try clear hs1); (try clear hs2); (try clear hs3); (try clear hs4); ) | have hcu2 := Cum.mk hb); have hcu := hcu2; clear hcu2; obtain ⟨hc, hfz⟩ := bcell hcu.h; have hsz := hcu.h.size; (try simp at hsz); (try have hs0 := lt_of_succ_le hsz); (try (have hs1 := lt_pred hsz; (try (have hs2 := lt_pred hs1; (try (have hs3 := lt_pred hs2; (try have hs4 := lt_pred hs3)))))))) | (go_at_call 49; refine (HS.out _ bel).mono ?_; rintro e w1 ⟨rfl, hb⟩; (first | (have hcu2 := Cum.join hcu hb; (try clear hcu); (try clear hc); (try clear hfz); (try clear hsz); (try clear hs0); (try clear hs1); (try clear hs2); (try clear hs3); (try clear hs4); ) | have hcu2 := Cum.mk hb); have hcu := hcu2; clear hcu2; obtain ⟨hc, hfz⟩ := bcell hcu.h; have hsz := hcu.h.size; (try simp at hsz); (try have hs0 := lt_of_succ_le hsz); (try (have hs1 := lt_pred hsz; (try (have hs2 := lt_pred hs1; (try (have hs3 := lt_pred hs2; (try have hs4 := lt_pred hs3)))))))))
      go_ret
      exact ⟨ret_bool HX.out.symm, bel⟩
  · have d8 : decide ((x : Int) ≤ 8) = false := decide_eq_false (by omega)
    have HX := Lib.hid (show okT n d = false by rw [Hf.out, decide_eq_false h8]; rfl)
    clear h8
    go_enter Tryz.func27, Tryz.ntmps27
    go_wp2_with (go_at_call 48; refine (HD.out _ bel).mono ?_; rintro e w1 ⟨rfl, hb⟩; (first | (have hcu2 := Cum.join hcu hb; (try clear hcu); (try clear hc); (try clear hfz); (try clear hsz); (try clear hs0); (try clear hs1); (try clear hs2); (try clear hs3); (try clear hs4); ) | have hcu2 := Cum.mk hb); have hcu := hcu2; clear hcu2; obtain ⟨hc, hfz⟩ := bcell hcu.h; have hsz := hcu.h.size; (try simp at hsz); (try have hs0 := lt_of_succ_le hsz); (try (have hs1 := lt_pred hsz; (try (have hs2 := lt_pred hs1; (try (have hs3 := lt_pred hs2; (try have hs4 := lt_pred hs3))))))))
    go_ret
    exact ⟨ret_bool HX.out.symm, bel⟩
end Go.Proofs.YtffelpdefjkeaaaGreatDoor
