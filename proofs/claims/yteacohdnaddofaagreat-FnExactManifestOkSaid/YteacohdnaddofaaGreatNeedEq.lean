/- Contracts of SameNeeds. No conditions. -/
import Derived.Test.YteacohdnaddofaaGreatSel
import Derived.Test.YteacohdnaddofaaGreatEq
import Derived.Test.YteacohdnaddofaaGreatCum2
namespace Go.Proofs.YteacohdnaddofaaGreat
open Go.RowKit

theorem cmpS_swap (a b : ByteArray) : cmpS b a = - cmpS a b := by
  by_cases h : a = b
  · subst h
    have : cmpS a a = 0 := by rw [cmpS_less, lessS_irrefl]; rfl
    rw [this]; rfl
  · rw [cmpS_less a b, cmpS_less b a, lessS_swap h]
    rcases lessS a b <;> rfl
theorem cmpI_swap (x y : Int) : cmpI y x = - cmpI x y := by
  rcases cmpI_cases x y with ⟨e, h⟩ | ⟨e, h⟩ | ⟨e, h⟩ <;> rw [e]
  · subst h; unfold cmpI; simp
  · unfold cmpI; rw [if_neg (by omega), if_pos h]; rfl
  · unfold cmpI; rw [if_pos h]
theorem cmpL_swap : ∀ l m : List ByteArray, cmpL m l = - cmpL l m
  | [], [] => rfl
  | [], _ :: _ => rfl
  | _ :: _, [] => rfl
  | x :: a, y :: b => by
    unfold cmpL
    rw [cmpS_swap x y, cmpL_swap a b]
    rcases cmpS_cases x y with ⟨e, h⟩ | ⟨e, h⟩ | ⟨e, h⟩ <;> rw [e] <;> rfl
theorem neg_beq (x : Int) : (-x == 0) = (x == 0) := by rw [Bool.eq_iff_iff]; simp
theorem orI_swap (x y z : Int) : orI [-x, -y, -z] = - orI [x, y, z] := by
  simp only [orI, neg_beq]
  split
  · split
    · split <;> rfl
    · rfl
  · rfl
theorem cmpN_swap (a b : Need) : cmpN b a = - cmpN a b := by
  unfold cmpN
  rw [cmpS_swap a.key b.key, cmpI_swap a.op b.op, cmpL_swap a.values b.values]
  exact orI_swap _ _ _
def eqNd (a b : Need) : Bool := cmpN a b == 0
theorem eqNd_less (a b : Need) : (lessN a b || lessN b a) = !eqNd a b := by
  unfold lessN eqNd
  rw [cmpN_swap a b, Bool.eq_iff_iff]
  simp
  omega
/-! contracts -/
theorem c_SameNeeds1 (a b : Need) (ca cb : List Value) (w : World) (lo lo' : Nat) (ha : C_Need lo w.heap.size w a ca) (hb : C_Need lo' w.heap.size w b cb) :
    Calls Tryz.prog 80 #[.agg ca.toArray, .agg cb.toArray] w fun e w' => e = .returned (.bool (eqNd a b)) ∧ Below w.heap.size w w' := by
  have hca := ha
  have hcb := hb
  obtain ⟨va, rfl, -, -, a2⟩ := ha
  obtain ⟨vb, rfl, -, -, b2⟩ := hb
  obtain ⟨A, c, rfl⟩ := a2.form
  obtain ⟨B, c', rfl⟩ := b2.form
  go_enter Tryz.func80, Tryz.ntmps80
  go_wp2_with (go_at_call 81; refine (c_impl_compareNeeds a b _ _ _ _ _ (hca.now (by repeat (first | (with_reducible exact Below.refl _ _) | (with_reducible refine ext_alloc ?_) | ((with_reducible refine ext_setCell ?_ ?_); focus (simp; (try omega))) | (with_reducible refine below_drewN ?_ _) | (with_reducible refine Below.drew ?_) | (with_reducible (apply ext_step; assumption))))) (hcb.now (by repeat (first | (with_reducible exact Below.refl _ _) | (with_reducible refine ext_alloc ?_) | ((with_reducible refine ext_setCell ?_ ?_); focus (simp; (try omega))) | (with_reducible refine below_drewN ?_ _) | (with_reducible refine Below.drew ?_) | (with_reducible (apply ext_step; assumption)))))).mono ?_; rintro e w1 ⟨rfl, hb⟩; (first | (have hcu2 := Cum.join hcu hb; (try clear hcu); (try clear hc); (try clear hfz); (try clear hsz); (try clear hs0); (try clear hs1); (try clear hs2); (try clear hs3); (try clear hs4); ) | have hcu2 := Cum.mk hb); have hcu := hcu2; clear hcu2; obtain ⟨hc, hfz⟩ := bcell hcu.h; have hsz := hcu.h.size; (try simp at hsz); (try have hs0 := lt_of_succ_le hsz); (try (have hs1 := lt_pred hsz; (try (have hs2 := lt_pred hs1; (try (have hs3 := lt_pred hs2; (try have hs4 := lt_pred hs3))))))))
  go_ret
  exact ⟨ret_bool rfl, (by repeat (first | (with_reducible exact Below.refl _ _) | (with_reducible refine ext_alloc ?_) | ((with_reducible refine ext_setCell ?_ ?_); focus (simp; (try omega))) | (with_reducible refine below_drewN ?_ _) | (with_reducible refine Below.drew ?_) | (with_reducible (apply ext_step; assumption))))⟩
set_option maxHeartbeats 1000000 in
theorem c_EqualFunc_Need (l m : List Need) (va vb : Value) (w : World) (lo lo' : Nat) (ha : Sl_Need lo w.heap.size w l va) (hb : Sl_Need lo' w.heap.size w m vb) :
    Calls Tryz.prog 79 #[va, vb, .func (.func 80) #[] #[]] w fun e w' => e = .returned (.bool (eqL eqNd l m)) ∧ Below w.heap.size w w' := by
  obtain ⟨A, c, rfl, hlc, hc, hA⟩ := ha
  obtain ⟨B, c', rfl, hlc', hc', hB⟩ := hb
  by_cases hlen : l.length = m.length
  · have hz : ((l.length : Int) != m.length) = false := by simp [hlen]
    have Hlen := Lib.hid hlen
    clear hlen
    go_enter Tryz.func79, Tryz.ntmps79
    go_wp2_with fail
    go_loopw [17] (fun i wr => ∃ k : Nat, k ≤ l.length ∧ i = .int .i64 k ∧ allR k (eqAt eqNd l m) = true ∧ Below w.heap.size w wr) (fun i _ => l.length - (intOf i).toNat)
    case atStart => exact ⟨0, Nat.zero_le _, rfl, rfl, (by repeat (first | (with_reducible exact Below.refl _ _) | (with_reducible refine ext_alloc ?_) | ((with_reducible refine ext_setCell ?_ ?_); focus (simp; (try omega))) | (with_reducible refine below_drewN ?_ _) | (with_reducible refine Below.drew ?_) | (with_reducible (apply ext_step; assumption))))⟩
    case round =>
      obtain ⟨k, hk, rfl, hall, hbr⟩ := hrel
      have Hall := Lib.hid hall
      clear hall
      by_cases hlt : k < l.length
      · skip
        obtain ⟨b, o, rfl, -, hbl, hcell⟩ := hA (by omega)
        obtain ⟨b', o', rfl, -, hbl', hcell'⟩ := hB (by have := Hlen.out; omega)
        obtain ⟨d, hd⟩ := exists_at hlt
        obtain ⟨d', hd'⟩ := exists_at (show k < m.length by have := Hlen.out; omega)
        obtain ⟨es, -, hcs, hC⟩ := hcell k d hd
        obtain ⟨es', -, hcs', hD⟩ := hcell' k d' hd'
        have hC' := hC
        have hD' := hD
        obtain ⟨ev2, rfl, -, -, ea2⟩ := hC'
        obtain ⟨eA2, ec2, rfl⟩ := ea2.form
        obtain ⟨fv2, rfl, -, -, fa2⟩ := hD'
        obtain ⟨fA2, fc2, rfl⟩ := fa2.form
        have hc0 := (hbr.cell (p := ⟨b, o + k * 3 + 0, none⟩) hbl).trans (hcs 0 (by omega))
        have hd0 := (hbr.cell (p := ⟨b', o' + k * 3 + 0, none⟩) hbl').trans (hcs' 0 (by omega))
        have hc1 := (hbr.cell (p := ⟨b, o + k * 3 + 1, none⟩) hbl).trans (hcs 1 (by omega))
        have hd1 := (hbr.cell (p := ⟨b', o' + k * 3 + 1, none⟩) hbl').trans (hcs' 1 (by omega))
        have hc2 := (hbr.cell (p := ⟨b, o + k * 3 + 2, none⟩) hbl).trans (hcs 2 (by omega))
        have hd2 := (hbr.cell (p := ⟨b', o' + k * 3 + 2, none⟩) hbl').trans (hcs' 2 (by omega))
        simp at hc0 hc1 hc2 hd0 hd1 hd2
        have hbr1 := Nat.lt_of_lt_of_le hbl hbr.size
        have hbr2 := Nat.lt_of_lt_of_le hbl' hbr.size
        have hbs := hbr.size
        have hk0 : (0 : Int) ≤ k := by omega
        have hk1 : (k : Int) < l.length := by omega
        have hk2 : (k : Int) < m.length := by have := Hlen.out; omega
        have He := Lib.hid (eqAt_eq eqNd l m k d d' hd hd')
        clear hcs hcell hA hcs' hcell' hB hd hd'
        rcases q0 : eqNd d d' with _ | _
        · have Hbad := Lib.hid (show eqAt eqNd l m k = false by rw [He.out, q0])
          go_wp2_with (go_at_call 80; refine (c_SameNeeds1 d d' _ _ _ _ _ (hC.now (by repeat (first | (with_reducible exact Below.refl _ _) | (with_reducible refine ext_alloc ?_) | ((with_reducible refine ext_setCell ?_ ?_); focus (simp; (try omega))) | (with_reducible refine below_drewN ?_ _) | (with_reducible refine Below.drew ?_) | (with_reducible (apply ext_step; assumption))))) (hD.now (by repeat (first | (with_reducible exact Below.refl _ _) | (with_reducible refine ext_alloc ?_) | ((with_reducible refine ext_setCell ?_ ?_); focus (simp; (try omega))) | (with_reducible refine below_drewN ?_ _) | (with_reducible refine Below.drew ?_) | (with_reducible (apply ext_step; assumption)))))).mono ?_; rintro e w1 ⟨rfl, hb⟩; (first | (have hcu2 := Cum.join hcu hb; (try clear hcu); (try clear hc); (try clear hfz); (try clear hsz); (try clear hs0); (try clear hs1); (try clear hs2); (try clear hs3); (try clear hs4); ) | have hcu2 := Cum.mk hb); have hcu := hcu2; clear hcu2; obtain ⟨hc, hfz⟩ := bcell hcu.h; have hsz := hcu.h.size; (try simp at hsz); (try have hs0 := lt_of_succ_le hsz); (try (have hs1 := lt_pred hsz; (try (have hs2 := lt_pred hs1; (try (have hs3 := lt_pred hs2; (try have hs4 := lt_pred hs3))))))))
          have Hf := eqL_bad eqNd l m k hlt Hbad.out
          go_ret
          exact ⟨ret_bool Hf.symm, (by repeat (first | (with_reducible exact Below.refl _ _) | (with_reducible refine ext_alloc ?_) | ((with_reducible refine ext_setCell ?_ ?_); focus (simp; (try omega))) | (with_reducible refine below_drewN ?_ _) | (with_reducible refine Below.drew ?_) | (with_reducible (apply ext_step; assumption))))⟩
        · have Hn := Lib.hid (show allR (k + 1) (eqAt eqNd l m) = true by rw [allR_succ, Hall.out, He.out, q0]; rfl)
          go_wp2_with (go_at_call 80; refine (c_SameNeeds1 d d' _ _ _ _ _ (hC.now (by repeat (first | (with_reducible exact Below.refl _ _) | (with_reducible refine ext_alloc ?_) | ((with_reducible refine ext_setCell ?_ ?_); focus (simp; (try omega))) | (with_reducible refine below_drewN ?_ _) | (with_reducible refine Below.drew ?_) | (with_reducible (apply ext_step; assumption))))) (hD.now (by repeat (first | (with_reducible exact Below.refl _ _) | (with_reducible refine ext_alloc ?_) | ((with_reducible refine ext_setCell ?_ ?_); focus (simp; (try omega))) | (with_reducible refine below_drewN ?_ _) | (with_reducible refine Below.drew ?_) | (with_reducible (apply ext_step; assumption)))))).mono ?_; rintro e w1 ⟨rfl, hb⟩; (first | (have hcu2 := Cum.join hcu hb; (try clear hcu); (try clear hc); (try clear hfz); (try clear hsz); (try clear hs0); (try clear hs1); (try clear hs2); (try clear hs3); (try clear hs4); ) | have hcu2 := Cum.mk hb); have hcu := hcu2; clear hcu2; obtain ⟨hc, hfz⟩ := bcell hcu.h; have hsz := hcu.h.size; (try simp at hsz); (try have hs0 := lt_of_succ_le hsz); (try (have hs1 := lt_pred hsz; (try (have hs2 := lt_pred hs1; (try (have hs3 := lt_pred hs2; (try have hs4 := lt_pred hs3))))))))
          go_roundw
          case rel => exact ⟨k + 1, by omega, by go_num, Hn.out, (by repeat (first | (with_reducible exact Below.refl _ _) | (with_reducible refine ext_alloc ?_) | ((with_reducible refine ext_setCell ?_ ?_); focus (simp; (try omega))) | (with_reducible refine below_drewN ?_ _) | (with_reducible refine Below.drew ?_) | (with_reducible (apply ext_step; assumption))))⟩
          case measure => simp [intOf]; omega
      · obtain rfl : k = l.length := by omega
        clear hA hB
        go_wp2_with fail
        go_ret
        exact ⟨ret_bool (eqL_all eqNd l m Hlen.out Hall.out).symm, (by repeat (first | (with_reducible exact Below.refl _ _) | (with_reducible refine ext_alloc ?_) | ((with_reducible refine ext_setCell ?_ ?_); focus (simp; (try omega))) | (with_reducible refine below_drewN ?_ _) | (with_reducible refine Below.drew ?_) | (with_reducible (apply ext_step; assumption))))⟩
  · have hz : ((l.length : Int) != m.length) = true := bne_iff_ne.2 (by omega)
    go_enter Tryz.func79, Tryz.ntmps79
    go_wp2_with fail
    go_ret
    exact ⟨ret_bool (eqL_len eqNd l m hlen).symm, (by repeat (first | (with_reducible exact Below.refl _ _) | (with_reducible refine ext_alloc ?_) | ((with_reducible refine ext_setCell ?_ ?_); focus (simp; (try omega))) | (with_reducible refine below_drewN ?_ _) | (with_reducible refine Below.drew ?_) | (with_reducible (apply ext_step; assumption))))⟩
theorem c_impl_SameNeeds (l m : List Need) (va vb : Value) (w : World) (lo lo' : Nat) (ha : Sl_Need lo w.heap.size w l va) (hb : Sl_Need lo' w.heap.size w m vb) :
    Calls Tryz.prog 45 #[va, vb] w fun e w' => e = .returned (.bool (eqL eqNd l m)) ∧ Below w.heap.size w w' := by
  obtain ⟨A, c, rfl⟩ := ha.form
  obtain ⟨B, c', rfl⟩ := hb.form
  go_enter Tryz.func45, Tryz.ntmps45
  go_wp2_with (go_at_call 79; refine (c_EqualFunc_Need _ _ _ _ _ _ _ ha hb).mono ?_; rintro e w1 ⟨rfl, hb⟩; (first | (have hcu2 := Cum.join hcu hb; (try clear hcu); (try clear hc); (try clear hfz); (try clear hsz); (try clear hs0); (try clear hs1); (try clear hs2); (try clear hs3); (try clear hs4); ) | have hcu2 := Cum.mk hb); have hcu := hcu2; clear hcu2; obtain ⟨hc, hfz⟩ := bcell hcu.h; have hsz := hcu.h.size; (try simp at hsz); (try have hs0 := lt_of_succ_le hsz); (try (have hs1 := lt_pred hsz; (try (have hs2 := lt_pred hs1; (try (have hs3 := lt_pred hs2; (try have hs4 := lt_pred hs3))))))))
  go_ret
  exact ⟨rfl, (by repeat (first | (with_reducible exact Below.refl _ _) | (with_reducible refine ext_alloc ?_) | ((with_reducible refine ext_setCell ?_ ?_); focus (simp; (try omega))) | (with_reducible refine below_drewN ?_ _) | (with_reducible refine Below.drew ?_) | (with_reducible (apply ext_step; assumption))))⟩
end Go.Proofs.YteacohdnaddofaaGreat
