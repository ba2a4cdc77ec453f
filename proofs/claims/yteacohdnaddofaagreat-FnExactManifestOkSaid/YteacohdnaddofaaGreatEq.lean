/- Contracts of the comparisons of slices. No conditions. Written by wip/tools/geneq.py. -/
import Derived.Test.YteacohdnaddofaaGreatTypes
import Derived.Test.YteacohdnaddofaaGreatStrs
import Derived.Test.YteacohdnaddofaaGreatDet
namespace Go.Proofs.YteacohdnaddofaaGreat
open Go.RowKit

def allR (n : Nat) (p : Nat → Bool) : Bool := (List.range n).all p
theorem allR_succ (n : Nat) (p : Nat → Bool) : allR (n + 1) p = (allR n p && p n) := by
  unfold allR; rw [List.range_succ, List.all_append]; simp
theorem allR_bad (n k : Nat) (p : Nat → Bool) (hk : k < n) (h : p k = false) : allR n p = false := by
  unfold allR; rw [List.all_eq_false]; exact ⟨k, by simpa using hk, by simp [h]⟩
def eqAt {D : Type} (eq : D → D → Bool) (l m : List D) (i : Nat) : Bool := match l[i]?, m[i]? with | some a, some b => eq a b | _, _ => true
theorem eqAt_eq {D : Type} (eq : D → D → Bool) (l m : List D) (i : Nat) (a b : D) (ha : l[i]? = some a) (hb : m[i]? = some b) : eqAt eq l m i = eq a b := by unfold eqAt; rw [ha, hb]
def eqL {D : Type} (eq : D → D → Bool) (l m : List D) : Bool := decide (l.length = m.length) && allR l.length (eqAt eq l m)
theorem eqL_len {D : Type} (eq : D → D → Bool) (l m : List D) (h : l.length ≠ m.length) : eqL eq l m = false := by unfold eqL; simp [h]
theorem eqL_bad {D : Type} (eq : D → D → Bool) (l m : List D) (k : Nat) (hk : k < l.length) (h : eqAt eq l m k = false) : eqL eq l m = false := by unfold eqL; rw [allR_bad _ k _ hk h, Bool.and_false]
theorem eqL_all {D : Type} (eq : D → D → Bool) (l m : List D) (h : l.length = m.length) (ha : allR l.length (eqAt eq l m) = true) : eqL eq l m = true := by unfold eqL; rw [ha]; simp [h]

def eqStr (d d' : ByteArray) : Bool := (d.toList == d'.toList)
def eqLab (d d' : Label) : Bool := (d.key.toList == d'.key.toList) && (d.value.toList == d'.value.toList)
def eqTnt (d d' : Taint) : Bool := (d.key.toList == d'.key.toList) && (d.value.toList == d'.value.toList) && (d.effect == d'.effect)
def eqTol (d d' : Tolerance) : Bool := (d.key.toList == d'.key.toList) && (d.equal == d'.equal) && (d.value.toList == d'.value.toList) && (d.effect == d'.effect)

set_option maxHeartbeats 4000000 in
theorem c_Equal_Label (l m : List Label) (va vb : Value) (w : World) (lo lo' : Nat) (ha : Sl_Label lo w.heap.size w l va) (hb : Sl_Label lo' w.heap.size w m vb) :
    Calls Tryz.prog 76 #[va, vb] w fun e w' => e = .returned (.bool (eqL eqLab l m)) ∧ Below w.heap.size w w' := by
  obtain ⟨A, c, rfl, hlc, hc, hA⟩ := ha
  obtain ⟨B, c', rfl, hlc', hc', hB⟩ := hb
  by_cases hlen : l.length = m.length
  · have hz : ((l.length : Int) != m.length) = false := by simp [hlen]
    have Hlen := Lib.hid hlen
    clear hlen
    go_enter Tryz.func76, Tryz.ntmps76
    go_wp2_with fail
    go_loopw [13] (fun i wr => ∃ k : Nat, k ≤ l.length ∧ i = .int .i64 k ∧ allR k (eqAt eqLab l m) = true ∧ Below w.heap.size w wr) (fun i _ => l.length - (intOf i).toNat)
    case atStart => exact ⟨0, Nat.zero_le _, rfl, rfl, (by repeat (first | (with_reducible exact Below.refl _ _) | (with_reducible refine ext_alloc ?_) | ((with_reducible refine ext_setCell ?_ ?_); focus (simp; (try omega))) | (with_reducible refine below_drewN ?_ _) | (with_reducible refine Below.drew ?_) | (with_reducible (apply ext_step; assumption))))⟩
    case round =>
      obtain ⟨k, hk, rfl, hall, hbr⟩ := hrel
      have Hall := Lib.hid hall
      clear hall
      by_cases hlt : k < l.length
      · obtain ⟨b, o, rfl, -, hbl, hcell⟩ := hA (by omega)
        obtain ⟨b', o', rfl, -, hbl', hcell'⟩ := hB (by have := Hlen.out; omega)
        obtain ⟨d, hd⟩ := exists_at hlt
        obtain ⟨d', hd'⟩ := exists_at (show k < m.length by have := Hlen.out; omega)
        obtain ⟨es, -, hcs, hC⟩ := hcell k d hd
        obtain ⟨es', -, hcs', hC'⟩ := hcell' k d' hd'
        obtain ⟨rfl, -⟩ := hC
        obtain ⟨rfl, -⟩ := hC'
        have hc0 := (hbr.cell (p := ⟨b, o + k * 2 + 0, none⟩) hbl).trans (hcs 0 (by omega))
        have hd0 := (hbr.cell (p := ⟨b', o' + k * 2 + 0, none⟩) hbl').trans (hcs' 0 (by omega))
        have hc1 := (hbr.cell (p := ⟨b, o + k * 2 + 1, none⟩) hbl).trans (hcs 1 (by omega))
        have hd1 := (hbr.cell (p := ⟨b', o' + k * 2 + 1, none⟩) hbl').trans (hcs' 1 (by omega))
        simp at hc0 hd0 hc1 hd1
        have hbr1 := Nat.lt_of_lt_of_le hbl hbr.size
        have hbr2 := Nat.lt_of_lt_of_le hbl' hbr.size
        have hk0 : (0 : Int) ≤ k := by omega
        have hk1 : (k : Int) < l.length := by omega
        have hk2 : (k : Int) < m.length := by have := Hlen.out; omega
        have He := Lib.hid (eqAt_eq eqLab l m k d d' hd hd')
        clear hcs hcell hA hcs' hcell' hB hd hd'
        rcases q0 : (d.key.toList == d'.key.toList) with _ | _
        · have Hbad := Lib.hid (show eqAt eqLab l m k = false by rw [He.out]; simp [eqLab, q0])
          go_wp2_with fail
          refine wp_region_det 9 (by kernel_rfl) (by kernel_rfl) (by decide) ?_
          apply Exists.intro
          refine And.intro ?_ ?_
          · (intro W hW; (try simp only [Act.put, List.setIfInBounds_toArray, List.set_cons_zero, List.set_cons_succ]); first | (go_wp2_with fail; exact ⟨rfl, rfl, Below.refl _ _⟩))
          apply Exists.intro
          refine And.intro ?_ ?_
          · (intro W hW; (try simp only [Act.put, List.setIfInBounds_toArray, List.set_cons_zero, List.set_cons_succ]); first | (go_wp2_with fail; exact ⟨rfl, rfl, Below.refl _ _⟩))
          apply Exists.intro
          refine And.intro ?_ ?_
          · (intro W hW; (try simp only [Act.put, List.setIfInBounds_toArray, List.set_cons_zero, List.set_cons_succ]); first | (go_wp2_with fail; exact ⟨rfl, rfl, Below.refl _ _⟩))
          apply Exists.intro
          refine And.intro ?_ ?_
          · (intro W hW; (try simp only [Act.put, List.setIfInBounds_toArray, List.set_cons_zero, List.set_cons_succ]); first | (obtain ⟨hcW, hfW⟩ := bcell hW; have hsW := hW.size; (try simp at hsW); (try have hsW0 := lt_of_succ_le hsW); (try (have hsW1 := lt_pred hsW; (try (have hsW2 := lt_pred hsW1)))); go_wp2_with fail; exact ⟨rfl, rfl, Below.refl _ _⟩))
          apply Exists.intro
          refine And.intro ?_ ?_
          · (intro W hW; (try simp only [Act.put, List.setIfInBounds_toArray, List.set_cons_zero, List.set_cons_succ]); first | (go_wp2_with fail; exact ⟨rfl, rfl, Below.refl _ _⟩))
          apply Exists.intro
          refine And.intro ?_ ?_
          · (intro W hW; (try simp only [Act.put, List.setIfInBounds_toArray, List.set_cons_zero, List.set_cons_succ]); first | (go_wp2_with fail; exact ⟨rfl, rfl, Below.refl _ _⟩))
          apply Exists.intro
          refine And.intro ?_ ?_
          · (intro W hW; (try simp only [Act.put, List.setIfInBounds_toArray, List.set_cons_zero, List.set_cons_succ]); first | (go_wp2_with fail; exact ⟨rfl, rfl, Below.refl _ _⟩))
          apply Exists.intro
          refine And.intro ?_ ?_
          · (intro W hW; (try simp only [Act.put, List.setIfInBounds_toArray, List.set_cons_zero, List.set_cons_succ]); first | (obtain ⟨hcW, hfW⟩ := bcell hW; have hsW := hW.size; (try simp at hsW); (try have hsW0 := lt_of_succ_le hsW); (try (have hsW1 := lt_pred hsW; (try (have hsW2 := lt_pred hsW1)))); go_wp2_with fail; exact ⟨rfl, rfl, Below.refl _ _⟩))
          apply Exists.intro
          refine And.intro ?_ ?_
          · (intro W hW; (try simp only [Act.put, List.setIfInBounds_toArray, List.set_cons_zero, List.set_cons_succ]); first | (go_wp2_with fail; exact ⟨rfl, rfl, Below.refl _ _⟩))
          intro w1 hb
          (first | (have hcu2 := Cum.join hcu hb; (try clear hcu); (try clear hc); (try clear hfz); (try clear hsz); (try clear hs0); (try clear hs1); (try clear hs2); (try clear hs3); (try clear hs4); ) | have hcu2 := Cum.mk hb); have hcu := hcu2; clear hcu2; obtain ⟨hc, hfz⟩ := bcell hcu.h; have hsz := hcu.h.size; (try simp at hsz); (try have hs0 := lt_of_succ_le hsz); (try (have hs1 := lt_pred hsz; (try (have hs2 := lt_pred hs1; (try (have hs3 := lt_pred hs2; (try have hs4 := lt_pred hs3)))))))
          (try simp only [Act.put, List.setIfInBounds_toArray, List.set_cons_zero, List.set_cons_succ])
          (try simp only [List.drop_succ_cons, List.drop_nil])
          go_wp2_with fail
          have Hf := eqL_bad eqLab l m k hlt Hbad.out
          go_ret
          exact ⟨ret_bool Hf.symm, (by repeat (first | (with_reducible exact Below.refl _ _) | (with_reducible refine ext_alloc ?_) | ((with_reducible refine ext_setCell ?_ ?_); focus (simp; (try omega))) | (with_reducible refine below_drewN ?_ _) | (with_reducible refine Below.drew ?_) | (with_reducible (apply ext_step; assumption))))⟩
        · skip
          rcases q1 : (d.value.toList == d'.value.toList) with _ | _
          · have Hbad := Lib.hid (show eqAt eqLab l m k = false by rw [He.out]; simp [eqLab, q0, q1])
            go_wp2_with fail
            refine wp_region_det 9 (by kernel_rfl) (by kernel_rfl) (by decide) ?_
            apply Exists.intro
            refine And.intro ?_ ?_
            · (intro W hW; (try simp only [Act.put, List.setIfInBounds_toArray, List.set_cons_zero, List.set_cons_succ]); first | (go_wp2_with fail; exact ⟨rfl, rfl, Below.refl _ _⟩))
            apply Exists.intro
            refine And.intro ?_ ?_
            · (intro W hW; (try simp only [Act.put, List.setIfInBounds_toArray, List.set_cons_zero, List.set_cons_succ]); first | (go_wp2_with fail; exact ⟨rfl, rfl, Below.refl _ _⟩))
            apply Exists.intro
            refine And.intro ?_ ?_
            · (intro W hW; (try simp only [Act.put, List.setIfInBounds_toArray, List.set_cons_zero, List.set_cons_succ]); first | (go_wp2_with fail; exact ⟨rfl, rfl, Below.refl _ _⟩))
            apply Exists.intro
            refine And.intro ?_ ?_
            · (intro W hW; (try simp only [Act.put, List.setIfInBounds_toArray, List.set_cons_zero, List.set_cons_succ]); first | (obtain ⟨hcW, hfW⟩ := bcell hW; have hsW := hW.size; (try simp at hsW); (try have hsW0 := lt_of_succ_le hsW); (try (have hsW1 := lt_pred hsW; (try (have hsW2 := lt_pred hsW1)))); go_wp2_with fail; exact ⟨rfl, rfl, Below.refl _ _⟩))
            apply Exists.intro
            refine And.intro ?_ ?_
            · (intro W hW; (try simp only [Act.put, List.setIfInBounds_toArray, List.set_cons_zero, List.set_cons_succ]); first | (go_wp2_with fail; exact ⟨rfl, rfl, Below.refl _ _⟩))
            apply Exists.intro
            refine And.intro ?_ ?_
            · (intro W hW; (try simp only [Act.put, List.setIfInBounds_toArray, List.set_cons_zero, List.set_cons_succ]); first | (go_wp2_with fail; exact ⟨rfl, rfl, Below.refl _ _⟩))
            apply Exists.intro
            refine And.intro ?_ ?_
            · (intro W hW; (try simp only [Act.put, List.setIfInBounds_toArray, List.set_cons_zero, List.set_cons_succ]); first | (go_wp2_with fail; exact ⟨rfl, rfl, Below.refl _ _⟩))
            apply Exists.intro
            refine And.intro ?_ ?_
            · (intro W hW; (try simp only [Act.put, List.setIfInBounds_toArray, List.set_cons_zero, List.set_cons_succ]); first | (obtain ⟨hcW, hfW⟩ := bcell hW; have hsW := hW.size; (try simp at hsW); (try have hsW0 := lt_of_succ_le hsW); (try (have hsW1 := lt_pred hsW; (try (have hsW2 := lt_pred hsW1)))); go_wp2_with fail; exact ⟨rfl, rfl, Below.refl _ _⟩))
            apply Exists.intro
            refine And.intro ?_ ?_
            · (intro W hW; (try simp only [Act.put, List.setIfInBounds_toArray, List.set_cons_zero, List.set_cons_succ]); first | (go_wp2_with fail; exact ⟨rfl, rfl, Below.refl _ _⟩))
            intro w1 hb
            (first | (have hcu2 := Cum.join hcu hb; (try clear hcu); (try clear hc); (try clear hfz); (try clear hsz); (try clear hs0); (try clear hs1); (try clear hs2); (try clear hs3); (try clear hs4); ) | have hcu2 := Cum.mk hb); have hcu := hcu2; clear hcu2; obtain ⟨hc, hfz⟩ := bcell hcu.h; have hsz := hcu.h.size; (try simp at hsz); (try have hs0 := lt_of_succ_le hsz); (try (have hs1 := lt_pred hsz; (try (have hs2 := lt_pred hs1; (try (have hs3 := lt_pred hs2; (try have hs4 := lt_pred hs3)))))))
            (try simp only [Act.put, List.setIfInBounds_toArray, List.set_cons_zero, List.set_cons_succ])
            (try simp only [List.drop_succ_cons, List.drop_nil])
            go_wp2_with fail
            have Hf := eqL_bad eqLab l m k hlt Hbad.out
            go_ret
            exact ⟨ret_bool Hf.symm, (by repeat (first | (with_reducible exact Below.refl _ _) | (with_reducible refine ext_alloc ?_) | ((with_reducible refine ext_setCell ?_ ?_); focus (simp; (try omega))) | (with_reducible refine below_drewN ?_ _) | (with_reducible refine Below.drew ?_) | (with_reducible (apply ext_step; assumption))))⟩
          · skip
            have Hn := Lib.hid (show allR (k + 1) (eqAt eqLab l m) = true by rw [allR_succ, Hall.out, He.out]; simp [eqLab, q0, q1])
            go_wp2_with fail
            refine wp_region_det 9 (by kernel_rfl) (by kernel_rfl) (by decide) ?_
            apply Exists.intro
            refine And.intro ?_ ?_
            · (intro W hW; (try simp only [Act.put, List.setIfInBounds_toArray, List.set_cons_zero, List.set_cons_succ]); first | (go_wp2_with fail; exact ⟨rfl, rfl, Below.refl _ _⟩))
            apply Exists.intro
            refine And.intro ?_ ?_
            · (intro W hW; (try simp only [Act.put, List.setIfInBounds_toArray, List.set_cons_zero, List.set_cons_succ]); first | (go_wp2_with fail; exact ⟨rfl, rfl, Below.refl _ _⟩))
            apply Exists.intro
            refine And.intro ?_ ?_
            · (intro W hW; (try simp only [Act.put, List.setIfInBounds_toArray, List.set_cons_zero, List.set_cons_succ]); first | (go_wp2_with fail; exact ⟨rfl, rfl, Below.refl _ _⟩))
            apply Exists.intro
            refine And.intro ?_ ?_
            · (intro W hW; (try simp only [Act.put, List.setIfInBounds_toArray, List.set_cons_zero, List.set_cons_succ]); first | (obtain ⟨hcW, hfW⟩ := bcell hW; have hsW := hW.size; (try simp at hsW); (try have hsW0 := lt_of_succ_le hsW); (try (have hsW1 := lt_pred hsW; (try (have hsW2 := lt_pred hsW1)))); go_wp2_with fail; exact ⟨rfl, rfl, Below.refl _ _⟩))
            apply Exists.intro
            refine And.intro ?_ ?_
            · (intro W hW; (try simp only [Act.put, List.setIfInBounds_toArray, List.set_cons_zero, List.set_cons_succ]); first | (go_wp2_with fail; exact ⟨rfl, rfl, Below.refl _ _⟩))
            apply Exists.intro
            refine And.intro ?_ ?_
            · (intro W hW; (try simp only [Act.put, List.setIfInBounds_toArray, List.set_cons_zero, List.set_cons_succ]); first | (go_wp2_with fail; exact ⟨rfl, rfl, Below.refl _ _⟩))
            apply Exists.intro
            refine And.intro ?_ ?_
            · (intro W hW; (try simp only [Act.put, List.setIfInBounds_toArray, List.set_cons_zero, List.set_cons_succ]); first | (go_wp2_with fail; exact ⟨rfl, rfl, Below.refl _ _⟩))
            apply Exists.intro
            refine And.intro ?_ ?_
            · (intro W hW; (try simp only [Act.put, List.setIfInBounds_toArray, List.set_cons_zero, List.set_cons_succ]); first | (obtain ⟨hcW, hfW⟩ := bcell hW; have hsW := hW.size; (try simp at hsW); (try have hsW0 := lt_of_succ_le hsW); (try (have hsW1 := lt_pred hsW; (try (have hsW2 := lt_pred hsW1)))); go_wp2_with fail; exact ⟨rfl, rfl, Below.refl _ _⟩))
            apply Exists.intro
            refine And.intro ?_ ?_
            · (intro W hW; (try simp only [Act.put, List.setIfInBounds_toArray, List.set_cons_zero, List.set_cons_succ]); first | (go_wp2_with fail; exact ⟨rfl, rfl, Below.refl _ _⟩))
            intro w1 hb
            (first | (have hcu2 := Cum.join hcu hb; (try clear hcu); (try clear hc); (try clear hfz); (try clear hsz); (try clear hs0); (try clear hs1); (try clear hs2); (try clear hs3); (try clear hs4); ) | have hcu2 := Cum.mk hb); have hcu := hcu2; clear hcu2; obtain ⟨hc, hfz⟩ := bcell hcu.h; have hsz := hcu.h.size; (try simp at hsz); (try have hs0 := lt_of_succ_le hsz); (try (have hs1 := lt_pred hsz; (try (have hs2 := lt_pred hs1; (try (have hs3 := lt_pred hs2; (try have hs4 := lt_pred hs3)))))))
            (try simp only [Act.put, List.setIfInBounds_toArray, List.set_cons_zero, List.set_cons_succ])
            (try simp only [List.drop_succ_cons, List.drop_nil])
            go_wp2_with fail
            go_roundw
            case rel => exact ⟨k + 1, by omega, by go_num, Hn.out, (by repeat (first | (with_reducible exact Below.refl _ _) | (with_reducible refine ext_alloc ?_) | ((with_reducible refine ext_setCell ?_ ?_); focus (simp; (try omega))) | (with_reducible refine below_drewN ?_ _) | (with_reducible refine Below.drew ?_) | (with_reducible (apply ext_step; assumption))))⟩
            case measure => simp [intOf]; omega
      · obtain rfl : k = l.length := by omega
        clear hA hB
        go_wp2_with fail
        go_ret
        exact ⟨ret_bool (eqL_all eqLab l m Hlen.out Hall.out).symm, (by repeat (first | (with_reducible exact Below.refl _ _) | (with_reducible refine ext_alloc ?_) | ((with_reducible refine ext_setCell ?_ ?_); focus (simp; (try omega))) | (with_reducible refine below_drewN ?_ _) | (with_reducible refine Below.drew ?_) | (with_reducible (apply ext_step; assumption))))⟩
  · have hz : ((l.length : Int) != m.length) = true := bne_iff_ne.2 (by omega)
    go_enter Tryz.func76, Tryz.ntmps76
    go_wp2_with fail
    go_ret
    exact ⟨ret_bool (eqL_len eqLab l m hlen).symm, (by repeat (first | (with_reducible exact Below.refl _ _) | (with_reducible refine ext_alloc ?_) | ((with_reducible refine ext_setCell ?_ ?_); focus (simp; (try omega))) | (with_reducible refine below_drewN ?_ _) | (with_reducible refine Below.drew ?_) | (with_reducible (apply ext_step; assumption))))⟩
set_option maxHeartbeats 4000000 in
theorem c_Equal_Taint (l m : List Taint) (va vb : Value) (w : World) (lo lo' : Nat) (ha : Sl_Taint lo w.heap.size w l va) (hb : Sl_Taint lo' w.heap.size w m vb) :
    Calls Tryz.prog 43 #[va, vb] w fun e w' => e = .returned (.bool (eqL eqTnt l m)) ∧ Below w.heap.size w w' := by
  obtain ⟨A, c, rfl, hlc, hc, hA⟩ := ha
  obtain ⟨B, c', rfl, hlc', hc', hB⟩ := hb
  by_cases hlen : l.length = m.length
  · have hz : ((l.length : Int) != m.length) = false := by simp [hlen]
    have Hlen := Lib.hid hlen
    clear hlen
    go_enter Tryz.func43, Tryz.ntmps43
    go_wp2_with fail
    go_loopw [13] (fun i wr => ∃ k : Nat, k ≤ l.length ∧ i = .int .i64 k ∧ allR k (eqAt eqTnt l m) = true ∧ Below w.heap.size w wr) (fun i _ => l.length - (intOf i).toNat)
    case atStart => exact ⟨0, Nat.zero_le _, rfl, rfl, (by repeat (first | (with_reducible exact Below.refl _ _) | (with_reducible refine ext_alloc ?_) | ((with_reducible refine ext_setCell ?_ ?_); focus (simp; (try omega))) | (with_reducible refine below_drewN ?_ _) | (with_reducible refine Below.drew ?_) | (with_reducible (apply ext_step; assumption))))⟩
    case round =>
      obtain ⟨k, hk, rfl, hall, hbr⟩ := hrel
      have Hall := Lib.hid hall
      clear hall
      by_cases hlt : k < l.length
      · obtain ⟨b, o, rfl, -, hbl, hcell⟩ := hA (by omega)
        obtain ⟨b', o', rfl, -, hbl', hcell'⟩ := hB (by have := Hlen.out; omega)
        obtain ⟨d, hd⟩ := exists_at hlt
        obtain ⟨d', hd'⟩ := exists_at (show k < m.length by have := Hlen.out; omega)
        obtain ⟨es, -, hcs, hC⟩ := hcell k d hd
        obtain ⟨es', -, hcs', hC'⟩ := hcell' k d' hd'
        obtain ⟨rfl, -⟩ := hC
        obtain ⟨rfl, -⟩ := hC'
        have hc0 := (hbr.cell (p := ⟨b, o + k * 3 + 0, none⟩) hbl).trans (hcs 0 (by omega))
        have hd0 := (hbr.cell (p := ⟨b', o' + k * 3 + 0, none⟩) hbl').trans (hcs' 0 (by omega))
        have hc1 := (hbr.cell (p := ⟨b, o + k * 3 + 1, none⟩) hbl).trans (hcs 1 (by omega))
        have hd1 := (hbr.cell (p := ⟨b', o' + k * 3 + 1, none⟩) hbl').trans (hcs' 1 (by omega))
        have hc2 := (hbr.cell (p := ⟨b, o + k * 3 + 2, none⟩) hbl).trans (hcs 2 (by omega))
        have hd2 := (hbr.cell (p := ⟨b', o' + k * 3 + 2, none⟩) hbl').trans (hcs' 2 (by omega))
        simp at hc0 hd0 hc1 hd1 hc2 hd2
        have hbr1 := Nat.lt_of_lt_of_le hbl hbr.size
        have hbr2 := Nat.lt_of_lt_of_le hbl' hbr.size
        have hk0 : (0 : Int) ≤ k := by omega
        have hk1 : (k : Int) < l.length := by omega
        have hk2 : (k : Int) < m.length := by have := Hlen.out; omega
        have He := Lib.hid (eqAt_eq eqTnt l m k d d' hd hd')
        clear hcs hcell hA hcs' hcell' hB hd hd'
        rcases q0 : (d.key.toList == d'.key.toList) with _ | _
        · have Hbad := Lib.hid (show eqAt eqTnt l m k = false by rw [He.out]; simp [eqTnt, q0])
          go_wp2_with fail
          refine wp_region_det 9 (by kernel_rfl) (by kernel_rfl) (by decide) ?_
          apply Exists.intro
          refine And.intro ?_ ?_
          · (intro W hW; (try simp only [Act.put, List.setIfInBounds_toArray, List.set_cons_zero, List.set_cons_succ]); first | (go_wp2_with fail; exact ⟨rfl, rfl, Below.refl _ _⟩))
          apply Exists.intro
          refine And.intro ?_ ?_
          · (intro W hW; (try simp only [Act.put, List.setIfInBounds_toArray, List.set_cons_zero, List.set_cons_succ]); first | (go_wp2_with fail; exact ⟨rfl, rfl, Below.refl _ _⟩))
          apply Exists.intro
          refine And.intro ?_ ?_
          · (intro W hW; (try simp only [Act.put, List.setIfInBounds_toArray, List.set_cons_zero, List.set_cons_succ]); first | (go_wp2_with fail; exact ⟨rfl, rfl, Below.refl _ _⟩))
          apply Exists.intro
          refine And.intro ?_ ?_
          · (intro W hW; (try simp only [Act.put, List.setIfInBounds_toArray, List.set_cons_zero, List.set_cons_succ]); first | (obtain ⟨hcW, hfW⟩ := bcell hW; have hsW := hW.size; (try simp at hsW); (try have hsW0 := lt_of_succ_le hsW); (try (have hsW1 := lt_pred hsW; (try (have hsW2 := lt_pred hsW1)))); go_wp2_with fail; exact ⟨rfl, rfl, Below.refl _ _⟩))
          apply Exists.intro
          refine And.intro ?_ ?_
          · (intro W hW; (try simp only [Act.put, List.setIfInBounds_toArray, List.set_cons_zero, List.set_cons_succ]); first | (go_wp2_with fail; exact ⟨rfl, rfl, Below.refl _ _⟩))
          apply Exists.intro
          refine And.intro ?_ ?_
          · (intro W hW; (try simp only [Act.put, List.setIfInBounds_toArray, List.set_cons_zero, List.set_cons_succ]); first | (go_wp2_with fail; exact ⟨rfl, rfl, Below.refl _ _⟩))
          apply Exists.intro
          refine And.intro ?_ ?_
          · (intro W hW; (try simp only [Act.put, List.setIfInBounds_toArray, List.set_cons_zero, List.set_cons_succ]); first | (go_wp2_with fail; exact ⟨rfl, rfl, Below.refl _ _⟩))
          apply Exists.intro
          refine And.intro ?_ ?_
          · (intro W hW; (try simp only [Act.put, List.setIfInBounds_toArray, List.set_cons_zero, List.set_cons_succ]); first | (obtain ⟨hcW, hfW⟩ := bcell hW; have hsW := hW.size; (try simp at hsW); (try have hsW0 := lt_of_succ_le hsW); (try (have hsW1 := lt_pred hsW; (try (have hsW2 := lt_pred hsW1)))); go_wp2_with fail; exact ⟨rfl, rfl, Below.refl _ _⟩))
          apply Exists.intro
          refine And.intro ?_ ?_
          · (intro W hW; (try simp only [Act.put, List.setIfInBounds_toArray, List.set_cons_zero, List.set_cons_succ]); first | (go_wp2_with fail; exact ⟨rfl, rfl, Below.refl _ _⟩))
          intro w1 hb
          (first | (have hcu2 := Cum.join hcu hb; (try clear hcu); (try clear hc); (try clear hfz); (try clear hsz); (try clear hs0); (try clear hs1); (try clear hs2); (try clear hs3); (try clear hs4); ) | have hcu2 := Cum.mk hb); have hcu := hcu2; clear hcu2; obtain ⟨hc, hfz⟩ := bcell hcu.h; have hsz := hcu.h.size; (try simp at hsz); (try have hs0 := lt_of_succ_le hsz); (try (have hs1 := lt_pred hsz; (try (have hs2 := lt_pred hs1; (try (have hs3 := lt_pred hs2; (try have hs4 := lt_pred hs3)))))))
          (try simp only [Act.put, List.setIfInBounds_toArray, List.set_cons_zero, List.set_cons_succ])
          (try simp only [List.drop_succ_cons, List.drop_nil])
          go_wp2_with fail
          have Hf := eqL_bad eqTnt l m k hlt Hbad.out
          go_ret
          exact ⟨ret_bool Hf.symm, (by repeat (first | (with_reducible exact Below.refl _ _) | (with_reducible refine ext_alloc ?_) | ((with_reducible refine ext_setCell ?_ ?_); focus (simp; (try omega))) | (with_reducible refine below_drewN ?_ _) | (with_reducible refine Below.drew ?_) | (with_reducible (apply ext_step; assumption))))⟩
        · skip
          rcases q1 : (d.value.toList == d'.value.toList) with _ | _
          · have Hbad := Lib.hid (show eqAt eqTnt l m k = false by rw [He.out]; simp [eqTnt, q0, q1])
            go_wp2_with fail
            refine wp_region_det 9 (by kernel_rfl) (by kernel_rfl) (by decide) ?_
            apply Exists.intro
            refine And.intro ?_ ?_
            · (intro W hW; (try simp only [Act.put, List.setIfInBounds_toArray, List.set_cons_zero, List.set_cons_succ]); first | (go_wp2_with fail; exact ⟨rfl, rfl, Below.refl _ _⟩))
            apply Exists.intro
            refine And.intro ?_ ?_
            · (intro W hW; (try simp only [Act.put, List.setIfInBounds_toArray, List.set_cons_zero, List.set_cons_succ]); first | (go_wp2_with fail; exact ⟨rfl, rfl, Below.refl _ _⟩))
            apply Exists.intro
            refine And.intro ?_ ?_
            · (intro W hW; (try simp only [Act.put, List.setIfInBounds_toArray, List.set_cons_zero, List.set_cons_succ]); first | (go_wp2_with fail; exact ⟨rfl, rfl, Below.refl _ _⟩))
            apply Exists.intro
            refine And.intro ?_ ?_
            · (intro W hW; (try simp only [Act.put, List.setIfInBounds_toArray, List.set_cons_zero, List.set_cons_succ]); first | (obtain ⟨hcW, hfW⟩ := bcell hW; have hsW := hW.size; (try simp at hsW); (try have hsW0 := lt_of_succ_le hsW); (try (have hsW1 := lt_pred hsW; (try (have hsW2 := lt_pred hsW1)))); go_wp2_with fail; exact ⟨rfl, rfl, Below.refl _ _⟩))
            apply Exists.intro
            refine And.intro ?_ ?_
            · (intro W hW; (try simp only [Act.put, List.setIfInBounds_toArray, List.set_cons_zero, List.set_cons_succ]); first | (go_wp2_with fail; exact ⟨rfl, rfl, Below.refl _ _⟩))
            apply Exists.intro
            refine And.intro ?_ ?_
            · (intro W hW; (try simp only [Act.put, List.setIfInBounds_toArray, List.set_cons_zero, List.set_cons_succ]); first | (go_wp2_with fail; exact ⟨rfl, rfl, Below.refl _ _⟩))
            apply Exists.intro
            refine And.intro ?_ ?_
            · (intro W hW; (try simp only [Act.put, List.setIfInBounds_toArray, List.set_cons_zero, List.set_cons_succ]); first | (go_wp2_with fail; exact ⟨rfl, rfl, Below.refl _ _⟩))
            apply Exists.intro
            refine And.intro ?_ ?_
            · (intro W hW; (try simp only [Act.put, List.setIfInBounds_toArray, List.set_cons_zero, List.set_cons_succ]); first | (obtain ⟨hcW, hfW⟩ := bcell hW; have hsW := hW.size; (try simp at hsW); (try have hsW0 := lt_of_succ_le hsW); (try (have hsW1 := lt_pred hsW; (try (have hsW2 := lt_pred hsW1)))); go_wp2_with fail; exact ⟨rfl, rfl, Below.refl _ _⟩))
            apply Exists.intro
            refine And.intro ?_ ?_
            · (intro W hW; (try simp only [Act.put, List.setIfInBounds_toArray, List.set_cons_zero, List.set_cons_succ]); first | (go_wp2_with fail; exact ⟨rfl, rfl, Below.refl _ _⟩))
            intro w1 hb
            (first | (have hcu2 := Cum.join hcu hb; (try clear hcu); (try clear hc); (try clear hfz); (try clear hsz); (try clear hs0); (try clear hs1); (try clear hs2); (try clear hs3); (try clear hs4); ) | have hcu2 := Cum.mk hb); have hcu := hcu2; clear hcu2; obtain ⟨hc, hfz⟩ := bcell hcu.h; have hsz := hcu.h.size; (try simp at hsz); (try have hs0 := lt_of_succ_le hsz); (try (have hs1 := lt_pred hsz; (try (have hs2 := lt_pred hs1; (try (have hs3 := lt_pred hs2; (try have hs4 := lt_pred hs3)))))))
            (try simp only [Act.put, List.setIfInBounds_toArray, List.set_cons_zero, List.set_cons_succ])
            (try simp only [List.drop_succ_cons, List.drop_nil])
            go_wp2_with fail
            have Hf := eqL_bad eqTnt l m k hlt Hbad.out
            go_ret
            exact ⟨ret_bool Hf.symm, (by repeat (first | (with_reducible exact Below.refl _ _) | (with_reducible refine ext_alloc ?_) | ((with_reducible refine ext_setCell ?_ ?_); focus (simp; (try omega))) | (with_reducible refine below_drewN ?_ _) | (with_reducible refine Below.drew ?_) | (with_reducible (apply ext_step; assumption))))⟩
          · skip
            rcases q2 : (d.effect == d'.effect) with _ | _
            · have Hbad := Lib.hid (show eqAt eqTnt l m k = false by rw [He.out]; simp [eqTnt, q0, q1, q2])
              go_wp2_with fail
              refine wp_region_det 9 (by kernel_rfl) (by kernel_rfl) (by decide) ?_
              apply Exists.intro
              refine And.intro ?_ ?_
              · (intro W hW; (try simp only [Act.put, List.setIfInBounds_toArray, List.set_cons_zero, List.set_cons_succ]); first | (go_wp2_with fail; exact ⟨rfl, rfl, Below.refl _ _⟩))
              apply Exists.intro
              refine And.intro ?_ ?_
              · (intro W hW; (try simp only [Act.put, List.setIfInBounds_toArray, List.set_cons_zero, List.set_cons_succ]); first | (go_wp2_with fail; exact ⟨rfl, rfl, Below.refl _ _⟩))
              apply Exists.intro
              refine And.intro ?_ ?_
              · (intro W hW; (try simp only [Act.put, List.setIfInBounds_toArray, List.set_cons_zero, List.set_cons_succ]); first | (go_wp2_with fail; exact ⟨rfl, rfl, Below.refl _ _⟩))
              apply Exists.intro
              refine And.intro ?_ ?_
              · (intro W hW; (try simp only [Act.put, List.setIfInBounds_toArray, List.set_cons_zero, List.set_cons_succ]); first | (obtain ⟨hcW, hfW⟩ := bcell hW; have hsW := hW.size; (try simp at hsW); (try have hsW0 := lt_of_succ_le hsW); (try (have hsW1 := lt_pred hsW; (try (have hsW2 := lt_pred hsW1)))); go_wp2_with fail; exact ⟨rfl, rfl, Below.refl _ _⟩))
              apply Exists.intro
              refine And.intro ?_ ?_
              · (intro W hW; (try simp only [Act.put, List.setIfInBounds_toArray, List.set_cons_zero, List.set_cons_succ]); first | (go_wp2_with fail; exact ⟨rfl, rfl, Below.refl _ _⟩))
              apply Exists.intro
              refine And.intro ?_ ?_
              · (intro W hW; (try simp only [Act.put, List.setIfInBounds_toArray, List.set_cons_zero, List.set_cons_succ]); first | (go_wp2_with fail; exact ⟨rfl, rfl, Below.refl _ _⟩))
              apply Exists.intro
              refine And.intro ?_ ?_
              · (intro W hW; (try simp only [Act.put, List.setIfInBounds_toArray, List.set_cons_zero, List.set_cons_succ]); first | (go_wp2_with fail; exact ⟨rfl, rfl, Below.refl _ _⟩))
              apply Exists.intro
              refine And.intro ?_ ?_
              · (intro W hW; (try simp only [Act.put, List.setIfInBounds_toArray, List.set_cons_zero, List.set_cons_succ]); first | (obtain ⟨hcW, hfW⟩ := bcell hW; have hsW := hW.size; (try simp at hsW); (try have hsW0 := lt_of_succ_le hsW); (try (have hsW1 := lt_pred hsW; (try (have hsW2 := lt_pred hsW1)))); go_wp2_with fail; exact ⟨rfl, rfl, Below.refl _ _⟩))
              apply Exists.intro
              refine And.intro ?_ ?_
              · (intro W hW; (try simp only [Act.put, List.setIfInBounds_toArray, List.set_cons_zero, List.set_cons_succ]); first | (go_wp2_with fail; exact ⟨rfl, rfl, Below.refl _ _⟩))
              intro w1 hb
              (first | (have hcu2 := Cum.join hcu hb; (try clear hcu); (try clear hc); (try clear hfz); (try clear hsz); (try clear hs0); (try clear hs1); (try clear hs2); (try clear hs3); (try clear hs4); ) | have hcu2 := Cum.mk hb); have hcu := hcu2; clear hcu2; obtain ⟨hc, hfz⟩ := bcell hcu.h; have hsz := hcu.h.size; (try simp at hsz); (try have hs0 := lt_of_succ_le hsz); (try (have hs1 := lt_pred hsz; (try (have hs2 := lt_pred hs1; (try (have hs3 := lt_pred hs2; (try have hs4 := lt_pred hs3)))))))
              (try simp only [Act.put, List.setIfInBounds_toArray, List.set_cons_zero, List.set_cons_succ])
              (try simp only [List.drop_succ_cons, List.drop_nil])
              go_wp2_with fail
              have Hf := eqL_bad eqTnt l m k hlt Hbad.out
              go_ret
              exact ⟨ret_bool Hf.symm, (by repeat (first | (with_reducible exact Below.refl _ _) | (with_reducible refine ext_alloc ?_) | ((with_reducible refine ext_setCell ?_ ?_); focus (simp; (try omega))) | (with_reducible refine below_drewN ?_ _) | (with_reducible refine Below.drew ?_) | (with_reducible (apply ext_step; assumption))))⟩
            · skip
              have Hn := Lib.hid (show allR (k + 1) (eqAt eqTnt l m) = true by rw [allR_succ, Hall.out, He.out]; simp [eqTnt, q0, q1, q2])
              go_wp2_with fail
              refine wp_region_det 9 (by kernel_rfl) (by kernel_rfl) (by decide) ?_
              apply Exists.intro
              refine And.intro ?_ ?_
              · (intro W hW; (try simp only [Act.put, List.setIfInBounds_toArray, List.set_cons_zero, List.set_cons_succ]); first | (go_wp2_with fail; exact ⟨rfl, rfl, Below.refl _ _⟩))
              apply Exists.intro
              refine And.intro ?_ ?_
              · (intro W hW; (try simp only [Act.put, List.setIfInBounds_toArray, List.set_cons_zero, List.set_cons_succ]); first | (go_wp2_with fail; exact ⟨rfl, rfl, Below.refl _ _⟩))
              apply Exists.intro
              refine And.intro ?_ ?_
              · (intro W hW; (try simp only [Act.put, List.setIfInBounds_toArray, List.set_cons_zero, List.set_cons_succ]); first | (go_wp2_with fail; exact ⟨rfl, rfl, Below.refl _ _⟩))
              apply Exists.intro
              refine And.intro ?_ ?_
              · (intro W hW; (try simp only [Act.put, List.setIfInBounds_toArray, List.set_cons_zero, List.set_cons_succ]); first | (obtain ⟨hcW, hfW⟩ := bcell hW; have hsW := hW.size; (try simp at hsW); (try have hsW0 := lt_of_succ_le hsW); (try (have hsW1 := lt_pred hsW; (try (have hsW2 := lt_pred hsW1)))); go_wp2_with fail; exact ⟨rfl, rfl, Below.refl _ _⟩))
              apply Exists.intro
              refine And.intro ?_ ?_
              · (intro W hW; (try simp only [Act.put, List.setIfInBounds_toArray, List.set_cons_zero, List.set_cons_succ]); first | (go_wp2_with fail; exact ⟨rfl, rfl, Below.refl _ _⟩))
              apply Exists.intro
              refine And.intro ?_ ?_
              · (intro W hW; (try simp only [Act.put, List.setIfInBounds_toArray, List.set_cons_zero, List.set_cons_succ]); first | (go_wp2_with fail; exact ⟨rfl, rfl, Below.refl _ _⟩))
              apply Exists.intro
              refine And.intro ?_ ?_
              · (intro W hW; (try simp only [Act.put, List.setIfInBounds_toArray, List.set_cons_zero, List.set_cons_succ]); first | (go_wp2_with fail; exact ⟨rfl, rfl, Below.refl _ _⟩))
              apply Exists.intro
              refine And.intro ?_ ?_
              · (intro W hW; (try simp only [Act.put, List.setIfInBounds_toArray, List.set_cons_zero, List.set_cons_succ]); first | (obtain ⟨hcW, hfW⟩ := bcell hW; have hsW := hW.size; (try simp at hsW); (try have hsW0 := lt_of_succ_le hsW); (try (have hsW1 := lt_pred hsW; (try (have hsW2 := lt_pred hsW1)))); go_wp2_with fail; exact ⟨rfl, rfl, Below.refl _ _⟩))
              apply Exists.intro
              refine And.intro ?_ ?_
              · (intro W hW; (try simp only [Act.put, List.setIfInBounds_toArray, List.set_cons_zero, List.set_cons_succ]); first | (go_wp2_with fail; exact ⟨rfl, rfl, Below.refl _ _⟩))
              intro w1 hb
              (first | (have hcu2 := Cum.join hcu hb; (try clear hcu); (try clear hc); (try clear hfz); (try clear hsz); (try clear hs0); (try clear hs1); (try clear hs2); (try clear hs3); (try clear hs4); ) | have hcu2 := Cum.mk hb); have hcu := hcu2; clear hcu2; obtain ⟨hc, hfz⟩ := bcell hcu.h; have hsz := hcu.h.size; (try simp at hsz); (try have hs0 := lt_of_succ_le hsz); (try (have hs1 := lt_pred hsz; (try (have hs2 := lt_pred hs1; (try (have hs3 := lt_pred hs2; (try have hs4 := lt_pred hs3)))))))
              (try simp only [Act.put, List.setIfInBounds_toArray, List.set_cons_zero, List.set_cons_succ])
              (try simp only [List.drop_succ_cons, List.drop_nil])
              go_wp2_with fail
              go_roundw
              case rel => exact ⟨k + 1, by omega, by go_num, Hn.out, (by repeat (first | (with_reducible exact Below.refl _ _) | (with_reducible refine ext_alloc ?_) | ((with_reducible refine ext_setCell ?_ ?_); focus (simp; (try omega))) | (with_reducible refine below_drewN ?_ _) | (with_reducible refine Below.drew ?_) | (with_reducible (apply ext_step; assumption))))⟩
              case measure => simp [intOf]; omega
      · obtain rfl : k = l.length := by omega
        clear hA hB
        go_wp2_with fail
        go_ret
        exact ⟨ret_bool (eqL_all eqTnt l m Hlen.out Hall.out).symm, (by repeat (first | (with_reducible exact Below.refl _ _) | (with_reducible refine ext_alloc ?_) | ((with_reducible refine ext_setCell ?_ ?_); focus (simp; (try omega))) | (with_reducible refine below_drewN ?_ _) | (with_reducible refine Below.drew ?_) | (with_reducible (apply ext_step; assumption))))⟩
  · have hz : ((l.length : Int) != m.length) = true := bne_iff_ne.2 (by omega)
    go_enter Tryz.func43, Tryz.ntmps43
    go_wp2_with fail
    go_ret
    exact ⟨ret_bool (eqL_len eqTnt l m hlen).symm, (by repeat (first | (with_reducible exact Below.refl _ _) | (with_reducible refine ext_alloc ?_) | ((with_reducible refine ext_setCell ?_ ?_); focus (simp; (try omega))) | (with_reducible refine below_drewN ?_ _) | (with_reducible refine Below.drew ?_) | (with_reducible (apply ext_step; assumption))))⟩
set_option maxHeartbeats 4000000 in
theorem c_Equal_Tolerance (l m : List Tolerance) (va vb : Value) (w : World) (lo lo' : Nat) (ha : Sl_Tolerance lo w.heap.size w l va) (hb : Sl_Tolerance lo' w.heap.size w m vb) :
    Calls Tryz.prog 46 #[va, vb] w fun e w' => e = .returned (.bool (eqL eqTol l m)) ∧ Below w.heap.size w w' := by
  obtain ⟨A, c, rfl, hlc, hc, hA⟩ := ha
  obtain ⟨B, c', rfl, hlc', hc', hB⟩ := hb
  by_cases hlen : l.length = m.length
  · have hz : ((l.length : Int) != m.length) = false := by simp [hlen]
    have Hlen := Lib.hid hlen
    clear hlen
    go_enter Tryz.func46, Tryz.ntmps46
    go_wp2_with fail
    go_loopw [13] (fun i wr => ∃ k : Nat, k ≤ l.length ∧ i = .int .i64 k ∧ allR k (eqAt eqTol l m) = true ∧ Below w.heap.size w wr) (fun i _ => l.length - (intOf i).toNat)
    case atStart => exact ⟨0, Nat.zero_le _, rfl, rfl, (by repeat (first | (with_reducible exact Below.refl _ _) | (with_reducible refine ext_alloc ?_) | ((with_reducible refine ext_setCell ?_ ?_); focus (simp; (try omega))) | (with_reducible refine below_drewN ?_ _) | (with_reducible refine Below.drew ?_) | (with_reducible (apply ext_step; assumption))))⟩
    case round =>
      obtain ⟨k, hk, rfl, hall, hbr⟩ := hrel
      have Hall := Lib.hid hall
      clear hall
      by_cases hlt : k < l.length
      · obtain ⟨b, o, rfl, -, hbl, hcell⟩ := hA (by omega)
        obtain ⟨b', o', rfl, -, hbl', hcell'⟩ := hB (by have := Hlen.out; omega)
        obtain ⟨d, hd⟩ := exists_at hlt
        obtain ⟨d', hd'⟩ := exists_at (show k < m.length by have := Hlen.out; omega)
        obtain ⟨es, -, hcs, hC⟩ := hcell k d hd
        obtain ⟨es', -, hcs', hC'⟩ := hcell' k d' hd'
        obtain ⟨rfl, -⟩ := hC
        obtain ⟨rfl, -⟩ := hC'
        have hc0 := (hbr.cell (p := ⟨b, o + k * 4 + 0, none⟩) hbl).trans (hcs 0 (by omega))
        have hd0 := (hbr.cell (p := ⟨b', o' + k * 4 + 0, none⟩) hbl').trans (hcs' 0 (by omega))
        have hc1 := (hbr.cell (p := ⟨b, o + k * 4 + 1, none⟩) hbl).trans (hcs 1 (by omega))
        have hd1 := (hbr.cell (p := ⟨b', o' + k * 4 + 1, none⟩) hbl').trans (hcs' 1 (by omega))
        have hc2 := (hbr.cell (p := ⟨b, o + k * 4 + 2, none⟩) hbl).trans (hcs 2 (by omega))
        have hd2 := (hbr.cell (p := ⟨b', o' + k * 4 + 2, none⟩) hbl').trans (hcs' 2 (by omega))
        have hc3 := (hbr.cell (p := ⟨b, o + k * 4 + 3, none⟩) hbl).trans (hcs 3 (by omega))
        have hd3 := (hbr.cell (p := ⟨b', o' + k * 4 + 3, none⟩) hbl').trans (hcs' 3 (by omega))
        simp at hc0 hd0 hc1 hd1 hc2 hd2 hc3 hd3
        have hbr1 := Nat.lt_of_lt_of_le hbl hbr.size
        have hbr2 := Nat.lt_of_lt_of_le hbl' hbr.size
        have hk0 : (0 : Int) ≤ k := by omega
        have hk1 : (k : Int) < l.length := by omega
        have hk2 : (k : Int) < m.length := by have := Hlen.out; omega
        have He := Lib.hid (eqAt_eq eqTol l m k d d' hd hd')
        clear hcs hcell hA hcs' hcell' hB hd hd'
        rcases q0 : (d.key.toList == d'.key.toList) with _ | _
        · have Hbad := Lib.hid (show eqAt eqTol l m k = false by rw [He.out]; simp [eqTol, q0])
          go_wp2_with fail
          refine wp_region_det 9 (by kernel_rfl) (by kernel_rfl) (by decide) ?_
          apply Exists.intro
          refine And.intro ?_ ?_
          · (intro W hW; (try simp only [Act.put, List.setIfInBounds_toArray, List.set_cons_zero, List.set_cons_succ]); first | (go_wp2_with fail; exact ⟨rfl, rfl, Below.refl _ _⟩))
          apply Exists.intro
          refine And.intro ?_ ?_
          · (intro W hW; (try simp only [Act.put, List.setIfInBounds_toArray, List.set_cons_zero, List.set_cons_succ]); first | (go_wp2_with fail; exact ⟨rfl, rfl, Below.refl _ _⟩))
          apply Exists.intro
          refine And.intro ?_ ?_
          · (intro W hW; (try simp only [Act.put, List.setIfInBounds_toArray, List.set_cons_zero, List.set_cons_succ]); first | (go_wp2_with fail; exact ⟨rfl, rfl, Below.refl _ _⟩))
          apply Exists.intro
          refine And.intro ?_ ?_
          · (intro W hW; (try simp only [Act.put, List.setIfInBounds_toArray, List.set_cons_zero, List.set_cons_succ]); first | (obtain ⟨hcW, hfW⟩ := bcell hW; have hsW := hW.size; (try simp at hsW); (try have hsW0 := lt_of_succ_le hsW); (try (have hsW1 := lt_pred hsW; (try (have hsW2 := lt_pred hsW1)))); go_wp2_with fail; exact ⟨rfl, rfl, Below.refl _ _⟩))
          apply Exists.intro
          refine And.intro ?_ ?_
          · (intro W hW; (try simp only [Act.put, List.setIfInBounds_toArray, List.set_cons_zero, List.set_cons_succ]); first | (go_wp2_with fail; exact ⟨rfl, rfl, Below.refl _ _⟩))
          apply Exists.intro
          refine And.intro ?_ ?_
          · (intro W hW; (try simp only [Act.put, List.setIfInBounds_toArray, List.set_cons_zero, List.set_cons_succ]); first | (go_wp2_with fail; exact ⟨rfl, rfl, Below.refl _ _⟩))
          apply Exists.intro
          refine And.intro ?_ ?_
          · (intro W hW; (try simp only [Act.put, List.setIfInBounds_toArray, List.set_cons_zero, List.set_cons_succ]); first | (go_wp2_with fail; exact ⟨rfl, rfl, Below.refl _ _⟩))
          apply Exists.intro
          refine And.intro ?_ ?_
          · (intro W hW; (try simp only [Act.put, List.setIfInBounds_toArray, List.set_cons_zero, List.set_cons_succ]); first | (obtain ⟨hcW, hfW⟩ := bcell hW; have hsW := hW.size; (try simp at hsW); (try have hsW0 := lt_of_succ_le hsW); (try (have hsW1 := lt_pred hsW; (try (have hsW2 := lt_pred hsW1)))); go_wp2_with fail; exact ⟨rfl, rfl, Below.refl _ _⟩))
          apply Exists.intro
          refine And.intro ?_ ?_
          · (intro W hW; (try simp only [Act.put, List.setIfInBounds_toArray, List.set_cons_zero, List.set_cons_succ]); first | (go_wp2_with fail; exact ⟨rfl, rfl, Below.refl _ _⟩))
          intro w1 hb
          (first | (have hcu2 := Cum.join hcu hb; (try clear hcu); (try clear hc); (try clear hfz); (try clear hsz); (try clear hs0); (try clear hs1); (try clear hs2); (try clear hs3); (try clear hs4); ) | have hcu2 := Cum.mk hb); have hcu := hcu2; clear hcu2; obtain ⟨hc, hfz⟩ := bcell hcu.h; have hsz := hcu.h.size; (try simp at hsz); (try have hs0 := lt_of_succ_le hsz); (try (have hs1 := lt_pred hsz; (try (have hs2 := lt_pred hs1; (try (have hs3 := lt_pred hs2; (try have hs4 := lt_pred hs3)))))))
          (try simp only [Act.put, List.setIfInBounds_toArray, List.set_cons_zero, List.set_cons_succ])
          (try simp only [List.drop_succ_cons, List.drop_nil])
          go_wp2_with fail
          have Hf := eqL_bad eqTol l m k hlt Hbad.out
          go_ret
          exact ⟨ret_bool Hf.symm, (by repeat (first | (with_reducible exact Below.refl _ _) | (with_reducible refine ext_alloc ?_) | ((with_reducible refine ext_setCell ?_ ?_); focus (simp; (try omega))) | (with_reducible refine below_drewN ?_ _) | (with_reducible refine Below.drew ?_) | (with_reducible (apply ext_step; assumption))))⟩
        · skip
          rcases q1 : (d.equal == d'.equal) with _ | _
          · have Hbad := Lib.hid (show eqAt eqTol l m k = false by rw [He.out]; simp [eqTol, q0, q1])
            go_wp2_with fail
            refine wp_region_det 9 (by kernel_rfl) (by kernel_rfl) (by decide) ?_
            apply Exists.intro
            refine And.intro ?_ ?_
            · (intro W hW; (try simp only [Act.put, List.setIfInBounds_toArray, List.set_cons_zero, List.set_cons_succ]); first | (go_wp2_with fail; exact ⟨rfl, rfl, Below.refl _ _⟩))
            apply Exists.intro
            refine And.intro ?_ ?_
            · (intro W hW; (try simp only [Act.put, List.setIfInBounds_toArray, List.set_cons_zero, List.set_cons_succ]); first | (go_wp2_with fail; exact ⟨rfl, rfl, Below.refl _ _⟩))
            apply Exists.intro
            refine And.intro ?_ ?_
            · (intro W hW; (try simp only [Act.put, List.setIfInBounds_toArray, List.set_cons_zero, List.set_cons_succ]); first | (go_wp2_with fail; exact ⟨rfl, rfl, Below.refl _ _⟩))
            apply Exists.intro
            refine And.intro ?_ ?_
            · (intro W hW; (try simp only [Act.put, List.setIfInBounds_toArray, List.set_cons_zero, List.set_cons_succ]); first | (obtain ⟨hcW, hfW⟩ := bcell hW; have hsW := hW.size; (try simp at hsW); (try have hsW0 := lt_of_succ_le hsW); (try (have hsW1 := lt_pred hsW; (try (have hsW2 := lt_pred hsW1)))); go_wp2_with fail; exact ⟨rfl, rfl, Below.refl _ _⟩))
            apply Exists.intro
            refine And.intro ?_ ?_
            · (intro W hW; (try simp only [Act.put, List.setIfInBounds_toArray, List.set_cons_zero, List.set_cons_succ]); first | (go_wp2_with fail; exact ⟨rfl, rfl, Below.refl _ _⟩))
            apply Exists.intro
            refine And.intro ?_ ?_
            · (intro W hW; (try simp only [Act.put, List.setIfInBounds_toArray, List.set_cons_zero, List.set_cons_succ]); first | (go_wp2_with fail; exact ⟨rfl, rfl, Below.refl _ _⟩))
            apply Exists.intro
            refine And.intro ?_ ?_
            · (intro W hW; (try simp only [Act.put, List.setIfInBounds_toArray, List.set_cons_zero, List.set_cons_succ]); first | (go_wp2_with fail; exact ⟨rfl, rfl, Below.refl _ _⟩))
            apply Exists.intro
            refine And.intro ?_ ?_
            · (intro W hW; (try simp only [Act.put, List.setIfInBounds_toArray, List.set_cons_zero, List.set_cons_succ]); first | (obtain ⟨hcW, hfW⟩ := bcell hW; have hsW := hW.size; (try simp at hsW); (try have hsW0 := lt_of_succ_le hsW); (try (have hsW1 := lt_pred hsW; (try (have hsW2 := lt_pred hsW1)))); go_wp2_with fail; exact ⟨rfl, rfl, Below.refl _ _⟩))
            apply Exists.intro
            refine And.intro ?_ ?_
            · (intro W hW; (try simp only [Act.put, List.setIfInBounds_toArray, List.set_cons_zero, List.set_cons_succ]); first | (go_wp2_with fail; exact ⟨rfl, rfl, Below.refl _ _⟩))
            intro w1 hb
            (first | (have hcu2 := Cum.join hcu hb; (try clear hcu); (try clear hc); (try clear hfz); (try clear hsz); (try clear hs0); (try clear hs1); (try clear hs2); (try clear hs3); (try clear hs4); ) | have hcu2 := Cum.mk hb); have hcu := hcu2; clear hcu2; obtain ⟨hc, hfz⟩ := bcell hcu.h; have hsz := hcu.h.size; (try simp at hsz); (try have hs0 := lt_of_succ_le hsz); (try (have hs1 := lt_pred hsz; (try (have hs2 := lt_pred hs1; (try (have hs3 := lt_pred hs2; (try have hs4 := lt_pred hs3)))))))
            (try simp only [Act.put, List.setIfInBounds_toArray, List.set_cons_zero, List.set_cons_succ])
            (try simp only [List.drop_succ_cons, List.drop_nil])
            go_wp2_with fail
            have Hf := eqL_bad eqTol l m k hlt Hbad.out
            go_ret
            exact ⟨ret_bool Hf.symm, (by repeat (first | (with_reducible exact Below.refl _ _) | (with_reducible refine ext_alloc ?_) | ((with_reducible refine ext_setCell ?_ ?_); focus (simp; (try omega))) | (with_reducible refine below_drewN ?_ _) | (with_reducible refine Below.drew ?_) | (with_reducible (apply ext_step; assumption))))⟩
          · skip
            rcases q2 : (d.value.toList == d'.value.toList) with _ | _
            · have Hbad := Lib.hid (show eqAt eqTol l m k = false by rw [He.out]; simp [eqTol, q0, q1, q2])
              go_wp2_with fail
              refine wp_region_det 9 (by kernel_rfl) (by kernel_rfl) (by decide) ?_
              apply Exists.intro
              refine And.intro ?_ ?_
              · (intro W hW; (try simp only [Act.put, List.setIfInBounds_toArray, List.set_cons_zero, List.set_cons_succ]); first | (go_wp2_with fail; exact ⟨rfl, rfl, Below.refl _ _⟩))
              apply Exists.intro
              refine And.intro ?_ ?_
              · (intro W hW; (try simp only [Act.put, List.setIfInBounds_toArray, List.set_cons_zero, List.set_cons_succ]); first | (go_wp2_with fail; exact ⟨rfl, rfl, Below.refl _ _⟩))
              apply Exists.intro
              refine And.intro ?_ ?_
              · (intro W hW; (try simp only [Act.put, List.setIfInBounds_toArray, List.set_cons_zero, List.set_cons_succ]); first | (go_wp2_with fail; exact ⟨rfl, rfl, Below.refl _ _⟩))
              apply Exists.intro
              refine And.intro ?_ ?_
              · (intro W hW; (try simp only [Act.put, List.setIfInBounds_toArray, List.set_cons_zero, List.set_cons_succ]); first | (obtain ⟨hcW, hfW⟩ := bcell hW; have hsW := hW.size; (try simp at hsW); (try have hsW0 := lt_of_succ_le hsW); (try (have hsW1 := lt_pred hsW; (try (have hsW2 := lt_pred hsW1)))); go_wp2_with fail; exact ⟨rfl, rfl, Below.refl _ _⟩))
              apply Exists.intro
              refine And.intro ?_ ?_
              · (intro W hW; (try simp only [Act.put, List.setIfInBounds_toArray, List.set_cons_zero, List.set_cons_succ]); first | (go_wp2_with fail; exact ⟨rfl, rfl, Below.refl _ _⟩))
              apply Exists.intro
              refine And.intro ?_ ?_
              · (intro W hW; (try simp only [Act.put, List.setIfInBounds_toArray, List.set_cons_zero, List.set_cons_succ]); first | (go_wp2_with fail; exact ⟨rfl, rfl, Below.refl _ _⟩))
              apply Exists.intro
              refine And.intro ?_ ?_
              · (intro W hW; (try simp only [Act.put, List.setIfInBounds_toArray, List.set_cons_zero, List.set_cons_succ]); first | (go_wp2_with fail; exact ⟨rfl, rfl, Below.refl _ _⟩))
              apply Exists.intro
              refine And.intro ?_ ?_
              · (intro W hW; (try simp only [Act.put, List.setIfInBounds_toArray, List.set_cons_zero, List.set_cons_succ]); first | (obtain ⟨hcW, hfW⟩ := bcell hW; have hsW := hW.size; (try simp at hsW); (try have hsW0 := lt_of_succ_le hsW); (try (have hsW1 := lt_pred hsW; (try (have hsW2 := lt_pred hsW1)))); go_wp2_with fail; exact ⟨rfl, rfl, Below.refl _ _⟩))
              apply Exists.intro
              refine And.intro ?_ ?_
              · (intro W hW; (try simp only [Act.put, List.setIfInBounds_toArray, List.set_cons_zero, List.set_cons_succ]); first | (go_wp2_with fail; exact ⟨rfl, rfl, Below.refl _ _⟩))
              intro w1 hb
              (first | (have hcu2 := Cum.join hcu hb; (try clear hcu); (try clear hc); (try clear hfz); (try clear hsz); (try clear hs0); (try clear hs1); (try clear hs2); (try clear hs3); (try clear hs4); ) | have hcu2 := Cum.mk hb); have hcu := hcu2; clear hcu2; obtain ⟨hc, hfz⟩ := bcell hcu.h; have hsz := hcu.h.size; (try simp at hsz); (try have hs0 := lt_of_succ_le hsz); (try (have hs1 := lt_pred hsz; (try (have hs2 := lt_pred hs1; (try (have hs3 := lt_pred hs2; (try have hs4 := lt_pred hs3)))))))
              (try simp only [Act.put, List.setIfInBounds_toArray, List.set_cons_zero, List.set_cons_succ])
              (try simp only [List.drop_succ_cons, List.drop_nil])
              go_wp2_with fail
              have Hf := eqL_bad eqTol l m k hlt Hbad.out
              go_ret
              exact ⟨ret_bool Hf.symm, (by repeat (first | (with_reducible exact Below.refl _ _) | (with_reducible refine ext_alloc ?_) | ((with_reducible refine ext_setCell ?_ ?_); focus (simp; (try omega))) | (with_reducible refine below_drewN ?_ _) | (with_reducible refine Below.drew ?_) | (with_reducible (apply ext_step; assumption))))⟩
            · skip
              rcases q3 : (d.effect == d'.effect) with _ | _
              · have Hbad := Lib.hid (show eqAt eqTol l m k = false by rw [He.out]; simp [eqTol, q0, q1, q2, q3])
                go_wp2_with fail
                refine wp_region_det 9 (by kernel_rfl) (by kernel_rfl) (by decide) ?_
                apply Exists.intro
                refine And.intro ?_ ?_
                · (intro W hW; (try simp only [Act.put, List.setIfInBounds_toArray, List.set_cons_zero, List.set_cons_succ]); first | (go_wp2_with fail; exact ⟨rfl, rfl, Below.refl _ _⟩))
                apply Exists.intro
                refine And.intro ?_ ?_
                · (intro W hW; (try simp only [Act.put, List.setIfInBounds_toArray, List.set_cons_zero, List.set_cons_succ]); first | (go_wp2_with fail; exact ⟨rfl, rfl, Below.refl _ _⟩))
                apply Exists.intro
                refine And.intro ?_ ?_
                · (intro W hW; (try simp only [Act.put, List.setIfInBounds_toArray, List.set_cons_zero, List.set_cons_succ]); first | (go_wp2_with fail; exact ⟨rfl, rfl, Below.refl _ _⟩))
                apply Exists.intro
                refine And.intro ?_ ?_
                · (intro W hW; (try simp only [Act.put, List.setIfInBounds_toArray, List.set_cons_zero, List.set_cons_succ]); first | (obtain ⟨hcW, hfW⟩ := bcell hW; have hsW := hW.size; (try simp at hsW); (try have hsW0 := lt_of_succ_le hsW); (try (have hsW1 := lt_pred hsW; (try (have hsW2 := lt_pred hsW1)))); go_wp2_with fail; exact ⟨rfl, rfl, Below.refl _ _⟩))
                apply Exists.intro
                refine And.intro ?_ ?_
                · (intro W hW; (try simp only [Act.put, List.setIfInBounds_toArray, List.set_cons_zero, List.set_cons_succ]); first | (go_wp2_with fail; exact ⟨rfl, rfl, Below.refl _ _⟩))
                apply Exists.intro
                refine And.intro ?_ ?_
                · (intro W hW; (try simp only [Act.put, List.setIfInBounds_toArray, List.set_cons_zero, List.set_cons_succ]); first | (go_wp2_with fail; exact ⟨rfl, rfl, Below.refl _ _⟩))
                apply Exists.intro
                refine And.intro ?_ ?_
                · (intro W hW; (try simp only [Act.put, List.setIfInBounds_toArray, List.set_cons_zero, List.set_cons_succ]); first | (go_wp2_with fail; exact ⟨rfl, rfl, Below.refl _ _⟩))
                apply Exists.intro
                refine And.intro ?_ ?_
                · (intro W hW; (try simp only [Act.put, List.setIfInBounds_toArray, List.set_cons_zero, List.set_cons_succ]); first | (obtain ⟨hcW, hfW⟩ := bcell hW; have hsW := hW.size; (try simp at hsW); (try have hsW0 := lt_of_succ_le hsW); (try (have hsW1 := lt_pred hsW; (try (have hsW2 := lt_pred hsW1)))); go_wp2_with fail; exact ⟨rfl, rfl, Below.refl _ _⟩))
                apply Exists.intro
                refine And.intro ?_ ?_
                · (intro W hW; (try simp only [Act.put, List.setIfInBounds_toArray, List.set_cons_zero, List.set_cons_succ]); first | (go_wp2_with fail; exact ⟨rfl, rfl, Below.refl _ _⟩))
                intro w1 hb
                (first | (have hcu2 := Cum.join hcu hb; (try clear hcu); (try clear hc); (try clear hfz); (try clear hsz); (try clear hs0); (try clear hs1); (try clear hs2); (try clear hs3); (try clear hs4); ) | have hcu2 := Cum.mk hb); have hcu := hcu2; clear hcu2; obtain ⟨hc, hfz⟩ := bcell hcu.h; have hsz := hcu.h.size; (try simp at hsz); (try have hs0 := lt_of_succ_le hsz); (try (have hs1 := lt_pred hsz; (try (have hs2 := lt_pred hs1; (try (have hs3 := lt_pred hs2; (try have hs4 := lt_pred hs3)))))))
                (try simp only [Act.put, List.setIfInBounds_toArray, List.set_cons_zero, List.set_cons_succ])
                (try simp only [List.drop_succ_cons, List.drop_nil])
                go_wp2_with fail
                have Hf := eqL_bad eqTol l m k hlt Hbad.out
                go_ret
                exact ⟨ret_bool Hf.symm, (by repeat (first | (with_reducible exact Below.refl _ _) | (with_reducible refine ext_alloc ?_) | ((with_reducible refine ext_setCell ?_ ?_); focus (simp; (try omega))) | (with_reducible refine below_drewN ?_ _) | (with_reducible refine Below.drew ?_) | (with_reducible (apply ext_step; assumption))))⟩
              · skip
                have Hn := Lib.hid (show allR (k + 1) (eqAt eqTol l m) = true by rw [allR_succ, Hall.out, He.out]; simp [eqTol, q0, q1, q2, q3])
                go_wp2_with fail
                refine wp_region_det 9 (by kernel_rfl) (by kernel_rfl) (by decide) ?_
                apply Exists.intro
                refine And.intro ?_ ?_
                · (intro W hW; (try simp only [Act.put, List.setIfInBounds_toArray, List.set_cons_zero, List.set_cons_succ]); first | (go_wp2_with fail; exact ⟨rfl, rfl, Below.refl _ _⟩))
                apply Exists.intro
                refine And.intro ?_ ?_
                · (intro W hW; (try simp only [Act.put, List.setIfInBounds_toArray, List.set_cons_zero, List.set_cons_succ]); first | (go_wp2_with fail; exact ⟨rfl, rfl, Below.refl _ _⟩))
                apply Exists.intro
                refine And.intro ?_ ?_
                · (intro W hW; (try simp only [Act.put, List.setIfInBounds_toArray, List.set_cons_zero, List.set_cons_succ]); first | (go_wp2_with fail; exact ⟨rfl, rfl, Below.refl _ _⟩))
                apply Exists.intro
                refine And.intro ?_ ?_
                · (intro W hW; (try simp only [Act.put, List.setIfInBounds_toArray, List.set_cons_zero, List.set_cons_succ]); first | (obtain ⟨hcW, hfW⟩ := bcell hW; have hsW := hW.size; (try simp at hsW); (try have hsW0 := lt_of_succ_le hsW); (try (have hsW1 := lt_pred hsW; (try (have hsW2 := lt_pred hsW1)))); go_wp2_with fail; exact ⟨rfl, rfl, Below.refl _ _⟩))
                apply Exists.intro
                refine And.intro ?_ ?_
                · (intro W hW; (try simp only [Act.put, List.setIfInBounds_toArray, List.set_cons_zero, List.set_cons_succ]); first | (go_wp2_with fail; exact ⟨rfl, rfl, Below.refl _ _⟩))
                apply Exists.intro
                refine And.intro ?_ ?_
                · (intro W hW; (try simp only [Act.put, List.setIfInBounds_toArray, List.set_cons_zero, List.set_cons_succ]); first | (go_wp2_with fail; exact ⟨rfl, rfl, Below.refl _ _⟩))
                apply Exists.intro
                refine And.intro ?_ ?_
                · (intro W hW; (try simp only [Act.put, List.setIfInBounds_toArray, List.set_cons_zero, List.set_cons_succ]); first | (go_wp2_with fail; exact ⟨rfl, rfl, Below.refl _ _⟩))
                apply Exists.intro
                refine And.intro ?_ ?_
                · (intro W hW; (try simp only [Act.put, List.setIfInBounds_toArray, List.set_cons_zero, List.set_cons_succ]); first | (obtain ⟨hcW, hfW⟩ := bcell hW; have hsW := hW.size; (try simp at hsW); (try have hsW0 := lt_of_succ_le hsW); (try (have hsW1 := lt_pred hsW; (try (have hsW2 := lt_pred hsW1)))); go_wp2_with fail; exact ⟨rfl, rfl, Below.refl _ _⟩))
                apply Exists.intro
                refine And.intro ?_ ?_
                · (intro W hW; (try simp only [Act.put, List.setIfInBounds_toArray, List.set_cons_zero, List.set_cons_succ]); first | (go_wp2_with fail; exact ⟨rfl, rfl, Below.refl _ _⟩))
                intro w1 hb
                (first | (have hcu2 := Cum.join hcu hb; (try clear hcu); (try clear hc); (try clear hfz); (try clear hsz); (try clear hs0); (try clear hs1); (try clear hs2); (try clear hs3); (try clear hs4); ) | have hcu2 := Cum.mk hb); have hcu := hcu2; clear hcu2; obtain ⟨hc, hfz⟩ := bcell hcu.h; have hsz := hcu.h.size; (try simp at hsz); (try have hs0 := lt_of_succ_le hsz); (try (have hs1 := lt_pred hsz; (try (have hs2 := lt_pred hs1; (try (have hs3 := lt_pred hs2; (try have hs4 := lt_pred hs3)))))))
                (try simp only [Act.put, List.setIfInBounds_toArray, List.set_cons_zero, List.set_cons_succ])
                (try simp only [List.drop_succ_cons, List.drop_nil])
                go_wp2_with fail
                go_roundw
                case rel => exact ⟨k + 1, by omega, by go_num, Hn.out, (by repeat (first | (with_reducible exact Below.refl _ _) | (with_reducible refine ext_alloc ?_) | ((with_reducible refine ext_setCell ?_ ?_); focus (simp; (try omega))) | (with_reducible refine below_drewN ?_ _) | (with_reducible refine Below.drew ?_) | (with_reducible (apply ext_step; assumption))))⟩
                case measure => simp [intOf]; omega
      · obtain rfl : k = l.length := by omega
        clear hA hB
        go_wp2_with fail
        go_ret
        exact ⟨ret_bool (eqL_all eqTol l m Hlen.out Hall.out).symm, (by repeat (first | (with_reducible exact Below.refl _ _) | (with_reducible refine ext_alloc ?_) | ((with_reducible refine ext_setCell ?_ ?_); focus (simp; (try omega))) | (with_reducible refine below_drewN ?_ _) | (with_reducible refine Below.drew ?_) | (with_reducible (apply ext_step; assumption))))⟩
  · have hz : ((l.length : Int) != m.length) = true := bne_iff_ne.2 (by omega)
    go_enter Tryz.func46, Tryz.ntmps46
    go_wp2_with fail
    go_ret
    exact ⟨ret_bool (eqL_len eqTol l m hlen).symm, (by repeat (first | (with_reducible exact Below.refl _ _) | (with_reducible refine ext_alloc ?_) | ((with_reducible refine ext_setCell ?_ ?_); focus (simp; (try omega))) | (with_reducible refine below_drewN ?_ _) | (with_reducible refine Below.drew ?_) | (with_reducible (apply ext_step; assumption))))⟩
theorem c_impl_SameLabels (l m : List Label) (va vb : Value) (w : World) (lo lo' : Nat) (ha : Sl_Label lo w.heap.size w l va) (hb : Sl_Label lo' w.heap.size w m vb) :
    Calls Tryz.prog 42 #[va, vb] w fun e w' => e = .returned (.bool (eqL eqLab l m)) ∧ Below w.heap.size w w' := by
  obtain ⟨A, c, rfl⟩ := ha.form
  obtain ⟨B, c', rfl⟩ := hb.form
  go_enter Tryz.func42, Tryz.ntmps42
  go_wp2_with (go_at_call 76; refine (c_Equal_Label _ _ _ _ _ _ _ ha hb).mono ?_; rintro e w1 ⟨rfl, hb⟩; (first | (have hcu2 := Cum.join hcu hb; (try clear hcu); (try clear hc); (try clear hfz); (try clear hsz); (try clear hs0); (try clear hs1); (try clear hs2); (try clear hs3); (try clear hs4); ) | have hcu2 := Cum.mk hb); have hcu := hcu2; clear hcu2; obtain ⟨hc, hfz⟩ := bcell hcu.h; have hsz := hcu.h.size; (try simp at hsz); (try have hs0 := lt_of_succ_le hsz); (try (have hs1 := lt_pred hsz; (try (have hs2 := lt_pred hs1; (try (have hs3 := lt_pred hs2; (try have hs4 := lt_pred hs3))))))))
  go_ret
  exact ⟨rfl, (by repeat (first | (with_reducible exact Below.refl _ _) | (with_reducible refine ext_alloc ?_) | ((with_reducible refine ext_setCell ?_ ?_); focus (simp; (try omega))) | (with_reducible refine below_drewN ?_ _) | (with_reducible refine Below.drew ?_) | (with_reducible (apply ext_step; assumption))))⟩
end Go.Proofs.YteacohdnaddofaaGreat
