/- Steps to FnCrossed. No conditions. -/
import Derived.Test.YtohcpifekcehjaaGreatDoorKfcr1
import Derived.RowKit
import Derived.Test.YtohcpifekcehjaaGreatDoorKfcr4
import Derived.Test.YtohcpifekcehjaaGreatDoorKfcr2
import Derived.Test.YtohcpifekcehjaaGreatDoorKfcr3
import Derived.Deep.CutRange
import Derived.Deep.RegionHeld3
import Derived.Lib.TrimByte
import Derived.Shelf.Lays
import Derived.Shelf.Strings.Trim
import Derived.Sort.Statements
import Derived.Shelf.LaysC
import Derived.Shelf.Strconv.AtoiAll
set_option maxHeartbeats 16000000
set_option maxRecDepth 20000
namespace Go.Proofs.YtohcpifekcehjaaGreatDoor
open Go.RowKit
def allR (n : Nat) (p : Nat -> Bool) : Bool := (List.range n).all p
theorem allR_succ (n : Nat) (p : Nat -> Bool) : allR (n + 1) p = (allR n p && p n) := by
 unfold allR; rw [List.range_succ, List.all_append]; simp
theorem allR_bad (n k : Nat) (p : Nat -> Bool) (hk : k < n) (h : p k = false) : allR n p = false := by
 unfold allR; rw [List.all_eq_false]; exact ⟨k, by simpa using hk, by simp [h]⟩
def eqAt {D : Type} (eq : D -> D -> Bool) (l m : List D) (i : Nat) : Bool := match l[i]?, m[i]? with | some a, some b => eq a b | _, _ => true
theorem eqAt_eq {D : Type} (eq : D -> D -> Bool) (l m : List D) (i : Nat) (a b : D) (ha : l[i]? = some a) (hb : m[i]? = some b) : eqAt eq l m i = eq a b := by unfold eqAt; rw [ha, hb]
def eqL {D : Type} (eq : D -> D -> Bool) (l m : List D) : Bool := decide (l.length = m.length) && allR l.length (eqAt eq l m)
theorem eqL_len {D : Type} (eq : D -> D -> Bool) (l m : List D) (h : l.length ≠ m.length) : eqL eq l m = false := by unfold eqL; simp [h]
theorem eqL_bad {D : Type} (eq : D -> D -> Bool) (l m : List D) (k : Nat) (hk : k < l.length) (h : eqAt eq l m k = false) : eqL eq l m = false := by unfold eqL; rw [allR_bad _ k _ hk h, Bool.and_false]
theorem eqL_all {D : Type} (eq : D -> D -> Bool) (l m : List D) (h : l.length = m.length) (ha : allR l.length (eqAt eq l m) = true) : eqL eq l m = true := by unfold eqL; rw [ha]; simp [h]
def eqStr (d d' : ByteArray) : Bool := (d.toList == d'.toList)
def strB (s : ByteArray) : Bool := decide (s.size <= 400) && utf8B s
def badH (d : TreeD) : Bool := !inB d.kind 1 6 || (d.flag && d.kind != 2) || (d.num != 0 && d.kind != 3) || (!d.text.toList.isEmpty && d.kind != 4) || (decide (0 < d.keys.length) && d.kind != 6) || (decide (0 < d.kids.length) && decide (d.kind < 5))
def keyOk (ks : List ByteArray) (i : Nat) : Bool := match ks[i]? with
 | none => true
 | some k => strB k && (match i with
  | 0 => true
  | j + 1 => match ks[j]? with
   | none => true
   | some p => lessS p k)
def lensOk (d : TreeD) : Bool := !(d.kind == 6 && decide (d.keys.length ≠ d.kids.length))
def kidAt (f : TreeD -> Bool) (l : List TreeD) (i : Nat) : Bool := match l[i]? with | none => true | some t => f t
def shapeT : Nat -> TreeD -> Bool
 | 0, _ => false
 | n + 1, d => !badH d && strB d.text && lensOk d && allR d.keys.length (keyOk d.keys) && allR d.kids.length (kidAt (shapeT n) d.kids)
theorem shapeT_succ (n : Nat) (d : TreeD) : shapeT (n + 1) d = (!badH d && strB d.text && lensOk d && allR d.keys.length (keyOk d.keys) && allR d.kids.length (kidAt (shapeT n) d.kids)) := rfl
theorem keyOk_none {ks : List ByteArray} {i : Nat} {k : ByteArray} (h : ks[i]? = some k) (hs : strB k = false) : keyOk ks i = false := by unfold keyOk; rw [h]; simp only; rw [hs]; rfl
theorem keyOk_zero {ks : List ByteArray} {k : ByteArray} (h : ks[0]? = some k) : keyOk ks 0 = strB k := by unfold keyOk; rw [h]; simp only; rw [Bool.and_true]
theorem keyOk_succ {ks : List ByteArray} {j : Nat} {p k : ByteArray} (h : ks[j + 1]? = some k) (hp : ks[j]? = some p) : keyOk ks (j + 1) = (strB k && lessS p k) := by unfold keyOk; rw [h]; simp only; rw [hp]
theorem kidAt_eq {f : TreeD -> Bool} {l : List TreeD} {i : Nat} {t : TreeD} (h : l[i]? = some t) : kidAt f l i = f t := by unfold kidAt; rw [h]
theorem c_impl_stringOk (s : ByteArray) (w : World) (hT : Tabs w) (hs : s.size <= 9223372036854775807) :
  Calls Tryz.prog 215 #[.string s] w fun e w' => e = .returned (.bool (strB s)) /\ Below w.heap.size w w' := by
 by_cases h : s.size <= 400
 ·have Hf := Lib.hid (show strB s = utf8B s by unfold strB; rw [decide_eq_true h, Bool.true_and])
  have d1 : decide ((s.size : Int) <= 400) = true := decide_eq_true (by omega);have HC := Lib.hid (fun (w' : World) (hb : Below w.heap.size w w') => c_impl_Utf8Ok s w' hs (hT.below hb));clear h hT;go_enter Tryz.func215, Tryz.ntmps215
  go_wp2_with (go_at_call 222; refine (HC.out _ bel).mono ?_; rintro e w1 ⟨rfl, hb⟩; (first | (have hcu2 := Cum.join hcu hb; (try clear hcu); (try clear hc); (try clear hfz); (try clear hsz); (try clear hs0); (try clear hs1); (try clear hs2); (try clear hs3); (try clear hs4); ) | have hcu2 := Cum.mk hb); have hcu := hcu2; clear hcu2; obtain ⟨hc, hfz⟩ := bcell hcu.h; have hsz := hcu.h.size; (try simp at hsz); (try have hs0 := lt_of_succ_le hsz); (try (have hs1 := lt_pred hsz; (try (have hs2 := lt_pred hs1; (try (have hs3 := lt_pred hs2; (try have hs4 := lt_pred hs3))))))))
  go_ret
  exact ⟨ret_bool Hf.out.symm, bel⟩
 ·have Hf := Lib.hid (show strB s = false by unfold strB; rw [decide_eq_false h, Bool.false_and])
  have d1 : decide ((s.size : Int) <= 400) = false := decide_eq_false (by omega);clear h hT;go_enter Tryz.func215, Tryz.ntmps215
  go_wp2_with fail
  go_ret
  exact ⟨ret_bool Hf.out.symm, bel⟩
theorem c_spec_l08Text (s : ByteArray) (w : World) :
  Calls Tryz.prog 116 #[.string s] w fun e w' => e = .returned (.bool (strB s)) /\ Below w.heap.size w w' := by
 by_cases h : s.size <= 400
 ·have Hf := Lib.hid (show strB s = utf8B s by unfold strB; rw [decide_eq_true h, Bool.true_and])
  have d1 : decide ((s.size : Int) <= 400) = true := decide_eq_true (by omega);have HC := Lib.hid (fun (w' : World) => c_spec_Utf8Ok s w' (by omega));clear h;go_enter Tryz.func116, Tryz.ntmps116
  go_wp2_with (go_at_call 195; refine (HC.out _).mono ?_; rintro e w1 ⟨rfl, hb⟩; (first | (have hcu2 := Cum.join hcu hb; (try clear hcu); (try clear hc); (try clear hfz); (try clear hsz); (try clear hs0); (try clear hs1); (try clear hs2); (try clear hs3); (try clear hs4); ) | have hcu2 := Cum.mk hb); have hcu := hcu2; clear hcu2; obtain ⟨hc, hfz⟩ := bcell hcu.h; have hsz := hcu.h.size; (try simp at hsz); (try have hs0 := lt_of_succ_le hsz); (try (have hs1 := lt_pred hsz; (try (have hs2 := lt_pred hs1; (try (have hs3 := lt_pred hs2; (try have hs4 := lt_pred hs3))))))))
  go_ret
  exact ⟨ret_bool Hf.out.symm, bel⟩
 ·have Hf := Lib.hid (show strB s = false by unfold strB; rw [decide_eq_false h, Bool.false_and])
  have d1 : decide ((s.size : Int) <= 400) = false := decide_eq_false (by omega);clear h;go_enter Tryz.func116, Tryz.ntmps116
  go_wp2_with fail
  go_ret
  exact ⟨ret_bool Hf.out.symm, bel⟩
def T_nodI (n : Nat) : Prop := ∀ (d : TreeD) (cs : List Value) (w : World) (lo : Nat), C_Tree n lo w.heap.size w d cs -> Tabs w ->
  Calls Tryz.prog 152 #[.agg cs.toArray] w fun e w' => e = .returned (.bool (shapeT n d)) /\ Below w.heap.size w w'
theorem of_nodI (n : Nat) (ih : T_nodI n) : T_nodI (n + 1) := by
 intro d cs w lo h hTab;have HT0 := Lib.hid hTab;clear hTab;obtain ⟨v4, v5, rfl, a0, a2, a3, a4, a5⟩ := C_Tree.out h;obtain ⟨A4, c4, rfl, hlk, hck, hK⟩ := a4;obtain ⟨A5, c5, rfl, hlc, hcc, hA⟩ := a5;have Hf := Lib.hid (shapeT_succ n d);clear h;obtain ⟨dk, df, dn, dt, dks, dkd⟩ := d;simp only at a0 a2 a3 hlk hK hlc hA ⊢;obtain ⟨z, hz⟩ : ∃ z, z = shapeT (n + 1) ⟨dk, df, dn, dt, dks, dkd⟩ := ⟨_, rfl⟩
 rw [<- hz] at Hf ⊢;simp only at Hf;clear hz;obtain ⟨W0, hW0⟩ : ∃ W, W = w.alloc (.cells #[.int .i64 dk, .bool df, .int .i64 dn, .string dt, .slice A4 dks.length c4, .slice A5 dkd.length c5] 34) := ⟨_, rfl⟩
 have hB0 : Below w.heap.size w W0 := by rw [hW0]; exact bel
 have HR0 := Lib.hid (show W0.heap[w.heap.size]? = some (.cells #[.int .i64 dk, .bool df, .int .i64 dn, .string dt, .slice A4 dks.length c4, .slice A5 dkd.length c5] 34 (0, 0)) by rw [hW0]; exact heap_at rfl);have HW0 := Lib.hid hW0;clear hW0;go_enter Tryz.func152, Tryz.ntmps152
 go_upto_region 1 with fail
 go_cut [61] from 7 to 61 (fun s61 wx => s61 = .bool (badH ⟨dk, df, dn, dt, dks, dkd⟩) /\ wx = w.alloc (.cells #[.int .i64 dk, .bool df, .int .i64 dn, .string dt, .slice A4 dks.length c4, .slice A5 dkd.length c5] 34))
 case first =>
  clear Hf hK hA HR0 HW0 hB0;go_wp2_with (go_at_call 63; refine (c_impl_within _ _ _ _).mono ?_; rintro e w1 ⟨rfl, rfl⟩)
  all_goals
   (try simp only [Bool.not_eq_true] at *)
   (try subst_vars)
   go_meet
   refine ⟨?_, rfl⟩;congr 1
  all_goals (unfold badH; simp_all; done)
 case rest =>
 obtain ⟨rfl, rfl⟩ := hcut;rw [<- HW0.out];obtain ⟨q1, hq1⟩ : ∃ q, q = badH ⟨dk, df, dn, dt, dks, dkd⟩ := ⟨_, rfl⟩
 rw [<- hq1] at Hf ⊢;clear hq1;rcases q1 with _ | _
 rotate_left
 ·have HX := Lib.hid (show z = false by rw [Hf.out]; rfl)
  go_wp2_with fail
  go_ret
  exact ⟨ret_bool HX.out.symm, bel⟩
 obtain ⟨x0, x1, x2, x3, x4, x5, xf⟩ := row6 HR0.out;have l0 := row_lt HR0.out;go_upto_region 3 with fail
 go_cut [79] from 62 to 79 (fun s79 wx => s79 = .bool (!(strB dt && lensOk ⟨dk, df, dn, dt, dks, dkd⟩)) /\ Below W0.heap.size W0 wx)
 case first =>
  clear Hf hK hA;rcases hst : strB dt with _ | _
  ·go_wp2_with (go_at_call 215; refine (c_impl_stringOk _ _ (HT0.out.below hB0) (by omega)).mono ?_; rintro e w9 ⟨rfl, hb9⟩)
   go_meet
   exact ⟨by rw [hst]; rfl, hb9⟩
  ·by_cases hk6 : dk = 6
   ·by_cases hln : dks.length = dkd.length
    focus
     have d1 : (dk == 6) = true := by simp [hk6]
     have d2 : ((dks.length : Int) != dkd.length) = false := by simp [hln]
     have HV := Lib.hid (show lensOk ⟨dk, df, dn, dt, dks, dkd⟩ = true by unfold lensOk; simp [hk6, hln])
    rotate_left
    focus
     have d1 : (dk == 6) = true := by simp [hk6]
     have d2 : ((dks.length : Int) != dkd.length) = true := bne_iff_ne.2 (by omega);have HV := Lib.hid (show lensOk ⟨dk, df, dn, dt, dks, dkd⟩ = false by unfold lensOk; simp [hk6, hln])
    rotate_left
    all_goals
     clear hk6 hln;go_wp2_with (go_at_call 215; refine (c_impl_stringOk _ _ (HT0.out.below hB0) (by omega)).mono ?_; rintro e w9 ⟨rfl, hb9⟩; obtain ⟨m0, m1, m2, m3, m4, m5, mf⟩ := row6 ((hb9.block _ l0).trans HR0.out); have lm := Nat.lt_of_lt_of_le l0 hb9.size)
     go_meet
     exact ⟨by rw [hst, HV.out]; rfl, hb9⟩
   ·have d1 : (dk == 6) = false := beq_eq_false_iff_ne.2 hk6
    have HV := Lib.hid (show lensOk ⟨dk, df, dn, dt, dks, dkd⟩ = true by unfold lensOk; simp [hk6]);clear hk6;go_wp2_with (go_at_call 215; refine (c_impl_stringOk _ _ (HT0.out.below hB0) (by omega)).mono ?_; rintro e w9 ⟨rfl, hb9⟩; obtain ⟨m0, m1, m2, m3, m4, m5, mf⟩ := row6 ((hb9.block _ l0).trans HR0.out); have lm := Nat.lt_of_lt_of_le l0 hb9.size)
    go_meet
    exact ⟨by rw [hst, HV.out]; rfl, hb9⟩
 case rest =>
 obtain ⟨rfl, hb1⟩ := hcut;have HR1 := Lib.hid ((hb1.block _ l0).trans HR0.out);have hB1 := hB0.trans (hb1.mono hB0.size);have hE := Lib.hid (show z = (strB dt && lensOk ⟨dk, df, dn, dt, dks, dkd⟩ && allR dks.length (keyOk dks) && allR dkd.length (kidAt (shapeT n) dkd)) by rw [Hf.out]; rfl);obtain ⟨q2, hq2⟩ : ∃ q, q = (strB dt && lensOk ⟨dk, df, dn, dt, dks, dkd⟩) := ⟨_, rfl⟩
 rw [<- hq2] at hE ⊢;clear hq2 Hf HR0 HW0 hB0 hb1 x0 x1 x2 x3 x4 x5 xf l0;rcases q2 with _ | _
 ·have HX := Lib.hid (show z = false by rw [hE.out]; rfl)
  go_wp2_with fail
  go_ret
  exact ⟨ret_bool HX.out.symm, bel⟩
 obtain ⟨x0, x1, x2, x3, x4, x5, xf⟩ := row6 HR1.out;have l0 := row_lt HR1.out;go_wp2_with fail
 go_loopw [83] (fun v wr => ∃ k : Nat, k <= dks.length /\ v = .int .i64 k /\ allR k (keyOk dks) = true /\ wr.heap[w.heap.size]? = some (.cells #[.int .i64 dk, .bool df, .int .i64 dn, .string dt, .slice A4 dks.length c4, .slice A5 dkd.length c5] 34 (0, 0)) /\ Below w.heap.size w wr) (fun v _ => dks.length - (intOf v).toNat)
 case atStart => exact ⟨0, Nat.zero_le _, rfl, rfl, HR1.out, hB1⟩
 case round =>
  clear x0 x1 x2 x3 x4 x5 xf l0 HR1 hB1;obtain ⟨k, hk, rfl, hall, hT, hbr⟩ := hrel;have HT := Lib.hid hT;have Hall := Lib.hid hall;clear hT hall;obtain ⟨x0, x1, x2, x3, x4, x5, xf⟩ := row6 HT.out;have l0 := row_lt HT.out;by_cases hlt : k < dks.length
  ·obtain ⟨p, o, rfl, -, hbl, hcell⟩ := hK (by omega)
   obtain ⟨s, hs⟩ := exists_at hlt;obtain ⟨es, -, hcs, rfl, hss⟩ := hcell k s hs;have hc0 := (hbr.cell (p := ⟨p, o + k * 1 + 0, none⟩) hbl).trans (hcs 0 (by omega));simp at hc0;have hbr1 := Nat.lt_of_lt_of_le hbl hbr.size;have hk0 : (0 : Int) <= k := by omega
   have hk1 : (k : Int) < dks.length := by omega
   have HS := Lib.hid hs;have HCl := Lib.hid hcell;clear hcs hcell hs hK hA;go_upto_region 8 with fail
   go_cut [104] from 88 to 104 (fun s wx => s = .bool (!keyOk dks k) /\ Below wr.heap.size wr wx)
   case first =>
    rcases hst : strB s with _ | _
    ·have HV := Lib.hid (keyOk_none HS.out hst)
     go_wp2_with (go_at_call 215; refine (c_impl_stringOk _ _ (HT0.out.below hbr) (by omega)).mono ?_; rintro e w9 ⟨rfl, hb9⟩)
     go_meet
     exact ⟨by rw [HV.out]; rfl, hb9⟩
    ·rcases k with _ | j
     ·have HV := Lib.hid ((keyOk_zero HS.out).trans hst)
      go_wp2_with (go_at_call 215; refine (c_impl_stringOk _ _ (HT0.out.below hbr) (by omega)).mono ?_; rintro e w9 ⟨rfl, hb9⟩)
      go_meet
      exact ⟨by rw [HV.out]; rfl, hb9⟩
     ·obtain ⟨r, hr⟩ := exists_at (show j < dks.length by omega)
      obtain ⟨es, -, hcs, rfl, hrs⟩ := HCl.out j r hr;have hd0 := (hbr.cell (p := ⟨p, o + j * 1 + 0, none⟩) hbl).trans (hcs 0 (by omega));simp at hd0;have hj0 : (0 : Int) < ((j + 1 : Nat) : Int) := by omega
      obtain ⟨y, hy⟩ : ∃ y : Nat, y = j + 1 := ⟨_, rfl⟩
      have HV := Lib.hid ((keyOk_succ HS.out hr).trans (by rw [hst, Bool.true_and]));have HY := Lib.hid hy;have hji : (y : Int) - 1 = (j : Int) := by omega
      have hj1 : (0 : Int) <= j := by omega
      have hj2 : (j : Int) < dks.length := by omega
      rw [<- hy] at hc0 hk0 hk1 hj0 HV ⊢;clear hcs hr hy hk hlt;rcases hls : lessS r s with _ | _
      focus
       have g1 : Op.bytesLess r.toList s.toList = false := hls
      rotate_left
      focus
       have g1 : Op.bytesLess r.toList s.toList = true := hls
      rotate_left
      all_goals
       have HV2 := Lib.hid (HV.out.trans hls);clear hls HV;go_wp2_with (go_at_call 215; refine (c_impl_stringOk _ _ (HT0.out.below hbr) (by omega)).mono ?_; rintro e w9 ⟨rfl, hb9⟩; obtain ⟨m0, m1, m2, m3, m4, m5, mf⟩ := row6 ((hb9.block _ l0).trans HT.out); have lm := Nat.lt_of_lt_of_le l0 hb9.size; have e0 := (hb9.cell (p := ⟨p, o + j, none⟩) hbr1).trans hd0; have le := Nat.lt_of_lt_of_le hbr1 hb9.size)
       all_goals
        have hy := HY.out;subst hy;go_meet
        exact ⟨by rw [HV2.out]; simp_all, hb9⟩
   case rest =>
    obtain ⟨rfl, hb9⟩ := hcut;have HT9 := Lib.hid ((hb9.block _ l0).trans HT.out);have hbr9 := hbr.trans (hb9.mono hbr.size);obtain ⟨q3, hq3⟩ : ∃ q, q = keyOk dks k := ⟨_, rfl⟩
    rw [<- hq3];rcases q3 with _ | _
    ·have HX := Lib.hid (show z = false by rw [hE.out, allR_bad _ k _ hlt hq3.symm]; rfl)
     clear hE hq3;go_wp2_with fail
     go_ret
     exact ⟨ret_bool HX.out.symm, bel⟩
    ·have Hn := Lib.hid (show allR (k + 1) (keyOk dks) = true by rw [allR_succ, Hall.out, <- hq3]; rfl)
     clear hq3 hbr hb9 hc0 x0 x1 x2 x3 x4 x5 xf;go_wp2_with fail
     go_roundw
     case rel => exact ⟨k + 1, by omega, by go_num, Hn.out, HT9.out, hbr9⟩
     case measure => simp [intOf]; omega
  ·obtain rfl : k = dks.length := by omega
   have hE2 := Lib.hid (show z = allR dkd.length (kidAt (shapeT n) dkd) by rw [hE.out, Hall.out]; rfl);have hke : decide (dks.length < dks.length) = false := decide_eq_false (Nat.lt_irrefl _);clear hK hE Hall;go_wp2_with fail
   go_loopw [109] (fun v wr => ∃ k : Nat, k <= dkd.length /\ v = .int .i64 k /\ allR k (kidAt (shapeT n) dkd) = true /\ Below w.heap.size w wr) (fun v _ => dkd.length - (intOf v).toNat)
   case atStart => exact ⟨0, Nat.zero_le _, rfl, rfl, hbr⟩
   case round =>
    have hb0 := hbr;clear hbr hb0 HT x0 x1 x2 x3 x4 x5 xf l0;obtain ⟨k, hk, rfl, hall, hbr⟩ := hrel;have Hall := Lib.hid hall;clear hall;by_cases hlt : k < dkd.length
    ·obtain ⟨p, o, rfl, -, hbl, hcell⟩ := hA (by omega)
     obtain ⟨t, ht⟩ := exists_at hlt;obtain ⟨es, -, hcs, hC⟩ := hcell k t ht;obtain ⟨eA4, ec4, eA5, ec5, rfl, ea0, ea2, ea3⟩ := hC.flat;have hc0 := (hbr.cell (p := ⟨p, o + k * 6 + 0, none⟩) (by simp; omega)).trans (hcs 0 (by omega));simp at hc0;have hc1 := (hbr.cell (p := ⟨p, o + k * 6 + 1, none⟩) (by simp; omega)).trans (hcs 1 (by omega));simp at hc1;have hc2 := (hbr.cell (p := ⟨p, o + k * 6 + 2, none⟩) (by simp; omega)).trans (hcs 2 (by omega))
     simp at hc2;have hc3 := (hbr.cell (p := ⟨p, o + k * 6 + 3, none⟩) (by simp; omega)).trans (hcs 3 (by omega));simp at hc3;have hc4 := (hbr.cell (p := ⟨p, o + k * 6 + 4, none⟩) (by simp; omega)).trans (hcs 4 (by omega));simp at hc4;have hc5 := (hbr.cell (p := ⟨p, o + k * 6 + 5, none⟩) (by simp; omega)).trans (hcs 5 (by omega));simp at hc5;have hbr1 := Nat.lt_of_lt_of_le hbl hbr.size;have hk0 : (0 : Int) <= k := by omega
     have hk1 : (k : Int) < dkd.length := by omega
     have HC := Lib.hid hC;have HKi := Lib.hid (kidAt_eq (f := shapeT n) ht);clear hcs hcell hA hC ht;rcases q0 : shapeT n t with _ | _
     ·have HX := Lib.hid (show z = false by rw [hE2.out]; exact allR_bad _ k _ hlt (by rw [HKi.out, q0]))
      go_wp2_with (go_at_call 152; refine (ih t _ _ _ (HC.out.now bel) (HT0.out.below bel)).mono ?_; rintro e w9 ⟨rfl, hb9⟩)
      go_ret
      exact ⟨ret_bool HX.out.symm, bel⟩
     ·have Hn := Lib.hid (show allR (k + 1) (kidAt (shapeT n) dkd) = true by rw [allR_succ, Hall.out, HKi.out, q0]; rfl)
      go_wp2_with (go_at_call 152; refine (ih t _ _ _ (HC.out.now bel) (HT0.out.below bel)).mono ?_; rintro e w9 ⟨rfl, hb9⟩)
      go_roundw
      case rel => ((repeat apply Exists.intro); exact ⟨⟨k + 1, by omega, by go_num, Hn.out, bel⟩, rfl⟩)
      case measure => simp [intOf]; omega
    ·obtain rfl : k = dkd.length := by omega
     have HX := Lib.hid (show z = true by rw [hE2.out]; exact Hall.out);clear hA;go_wp2_with fail
     go_ret
     exact ⟨ret_bool HX.out.symm, bel⟩
theorem all_nodI : ∀ n, T_nodI n
 | 0 => fun _ _ _ _ h _ => (C_Tree.none h).elim
 | n + 1 => of_nodI n (all_nodI n)
def T_nodS (n : Nat) : Prop := ∀ (d : TreeD) (cs : List Value) (w : World) (lo : Nat), C_Tree n lo w.heap.size w d cs ->
  Calls Tryz.prog 59 #[.agg cs.toArray] w fun e w' => e = .returned (.bool (shapeT n d)) /\ Below w.heap.size w w'
theorem of_nodS (n : Nat) (ih : T_nodS n) : T_nodS (n + 1) := by
 intro d cs w lo h;obtain ⟨v4, v5, rfl, a0, a2, a3, a4, a5⟩ := C_Tree.out h;obtain ⟨A4, c4, rfl, hlk, hck, hK⟩ := a4;obtain ⟨A5, c5, rfl, hlc, hcc, hA⟩ := a5;have Hf := Lib.hid (shapeT_succ n d);clear h;obtain ⟨dk, df, dn, dt, dks, dkd⟩ := d;simp only at a0 a2 a3 hlk hK hlc hA ⊢;obtain ⟨z, hz⟩ : ∃ z, z = shapeT (n + 1) ⟨dk, df, dn, dt, dks, dkd⟩ := ⟨_, rfl⟩
 rw [<- hz] at Hf ⊢;simp only at Hf;clear hz;obtain ⟨W0, hW0⟩ : ∃ W, W = w.alloc (.cells #[.int .i64 dk, .bool df, .int .i64 dn, .string dt, .slice A4 dks.length c4, .slice A5 dkd.length c5] 34) := ⟨_, rfl⟩
 have hB0 : Below w.heap.size w W0 := by rw [hW0]; exact bel
 have HR0 := Lib.hid (show W0.heap[w.heap.size]? = some (.cells #[.int .i64 dk, .bool df, .int .i64 dn, .string dt, .slice A4 dks.length c4, .slice A5 dkd.length c5] 34 (0, 0)) by rw [hW0]; exact heap_at rfl);have HW0 := Lib.hid hW0;clear hW0;go_enter Tryz.func59, Tryz.ntmps59
 go_upto_region 1 with fail
 obtain ⟨x0, x1, x2, x3, x4, x5, xf⟩ := row6 HR0.out;have l0 := row_lt HR0.out;go_cut [65] from 5 to 65 (fun s65 wx => s65 = .bool (!(!badH ⟨dk, df, dn, dt, dks, dkd⟩ && strB dt)) /\ Below W0.heap.size W0 wx)
 case first =>
  rw [<- HW0.out];clear Hf hK hA HW0;have hbb : Below W0.heap.size W0 W0 := Below.refl _ _;go_wp2_with (first | (go_at_call 115; refine (c_spec_l01In _ _ _ _).mono ?_; rintro e w1 ⟨rfl, rfl⟩) | (go_at_call 116; refine (c_spec_l08Text _ _).mono ?_; rintro e w9 ⟨rfl, hb9⟩))
  all_goals
   (try simp only [Bool.not_eq_true] at *)
   (try subst_vars)
   go_meet
   refine ⟨?_, by first | exact hb9 | exact Below.refl _ _⟩;congr 1
  all_goals (unfold badH; simp_all; done)
 case rest =>
 obtain ⟨rfl, hb1⟩ := hcut;have HR1 := Lib.hid ((hb1.block _ l0).trans HR0.out);have hB1 := hB0.trans (hb1.mono hB0.size);obtain ⟨q1, hq1⟩ : ∃ q, q = (!badH ⟨dk, df, dn, dt, dks, dkd⟩ && strB dt) := ⟨_, rfl⟩
 have hE0 := Lib.hid (show z = ((!badH ⟨dk, df, dn, dt, dks, dkd⟩ && strB dt) && lensOk ⟨dk, df, dn, dt, dks, dkd⟩ && allR dks.length (keyOk dks) && allR dkd.length (kidAt (shapeT n) dkd)) from Hf.out);rw [<- hq1] at hE0 ⊢;clear hq1 Hf HR0 HW0 hB0 hb1 x0 x1 x2 x3 x4 x5 xf l0;rcases q1 with _ | _
 ·have HX := Lib.hid (show z = false by rw [hE0.out]; rfl)
  go_wp2_with fail
  go_ret
  exact ⟨ret_bool HX.out.symm, bel⟩
 obtain ⟨x0, x1, x2, x3, x4, x5, xf⟩ := row6 HR1.out;have l0 := row_lt HR1.out;have hE1 := Lib.hid (show z = (lensOk ⟨dk, df, dn, dt, dks, dkd⟩ && allR dks.length (keyOk dks) && allR dkd.length (kidAt (shapeT n) dkd)) by rw [hE0.out]; rfl);clear hE0;go_upto_region 3 with fail
 go_cut [77] from 66 to 77 (fun s77 wx => s77 = .bool (!lensOk ⟨dk, df, dn, dt, dks, dkd⟩) /\ wx = wc)
 case first =>
  clear hE1 hK hA;by_cases hk6 : dk = 6
  ·by_cases hln : dks.length = dkd.length
   focus
    have d1 : (dk == 6) = true := by simp [hk6]
    have d2 : ((dks.length : Int) != dkd.length) = false := by simp [hln]
    have HV := Lib.hid (show lensOk ⟨dk, df, dn, dt, dks, dkd⟩ = true by unfold lensOk; simp [hk6, hln])
   rotate_left
   focus
    have d1 : (dk == 6) = true := by simp [hk6]
    have d2 : ((dks.length : Int) != dkd.length) = true := bne_iff_ne.2 (by omega);have HV := Lib.hid (show lensOk ⟨dk, df, dn, dt, dks, dkd⟩ = false by unfold lensOk; simp [hk6, hln])
   rotate_left
   all_goals
    clear hk6 hln;go_wp2_with fail
    go_meet
    exact ⟨by rw [HV.out]; rfl, rfl⟩
  ·have d1 : (dk == 6) = false := beq_eq_false_iff_ne.2 hk6
   have HV := Lib.hid (show lensOk ⟨dk, df, dn, dt, dks, dkd⟩ = true by unfold lensOk; simp [hk6]);clear hk6;go_wp2_with fail
   go_meet
   exact ⟨by rw [HV.out]; rfl, rfl⟩
 case rest =>
 obtain ⟨rfl, hwc⟩ := hcut;subst hwc;obtain ⟨q2, hq2⟩ : ∃ q, q = lensOk ⟨dk, df, dn, dt, dks, dkd⟩ := ⟨_, rfl⟩
 rw [<- hq2] at hE1 ⊢;clear hq2;rcases q2 with _ | _
 ·have HX := Lib.hid (show z = false by rw [hE1.out]; rfl)
  go_wp2_with fail
  go_ret
  exact ⟨ret_bool HX.out.symm, bel⟩
 have hE := Lib.hid (show z = (allR dks.length (keyOk dks) && allR dkd.length (kidAt (shapeT n) dkd)) by rw [hE1.out]; rfl);clear hE1;go_wp2_with fail
 go_loopw [3] (fun v wr => ∃ k : Nat, k <= dks.length /\ v = .int .i64 k /\ allR k (keyOk dks) = true /\ wr.heap[w.heap.size]? = some (.cells #[.int .i64 dk, .bool df, .int .i64 dn, .string dt, .slice A4 dks.length c4, .slice A5 dkd.length c5] 34 (0, 0)) /\ Below w.heap.size w wr) (fun v _ => dks.length - (intOf v).toNat)
 case atStart => exact ⟨0, Nat.zero_le _, rfl, rfl, HR1.out, hB1⟩
 case round =>
  clear x0 x1 x2 x3 x4 x5 xf l0 HR1 hB1;obtain ⟨k, hk, rfl, hall, hT, hbr⟩ := hrel;have HT := Lib.hid hT;have Hall := Lib.hid hall;clear hT hall;obtain ⟨x0, x1, x2, x3, x4, x5, xf⟩ := row6 HT.out;have l0 := row_lt HT.out;by_cases hlt : k < dks.length
  ·obtain ⟨p, o, rfl, -, hbl, hcell⟩ := hK (by omega)
   obtain ⟨s, hs⟩ := exists_at hlt;obtain ⟨es, -, hcs, rfl, hss⟩ := hcell k s hs;have hc0 := (hbr.cell (p := ⟨p, o + k * 1 + 0, none⟩) hbl).trans (hcs 0 (by omega));simp at hc0;have hbr1 := Nat.lt_of_lt_of_le hbl hbr.size;have hk0 : (0 : Int) <= k := by omega
   have hk1 : (k : Int) < dks.length := by omega
   have HS := Lib.hid hs;have HCl := Lib.hid hcell;clear hcs hcell hs hK hA;go_upto_region 8 with fail
   go_cut [109] from 85 to 109 (fun s wx => s = .bool (!keyOk dks k) /\ Below wr.heap.size wr wx)
   case first =>
    rcases hst : strB s with _ | _
    ·have HV := Lib.hid (keyOk_none HS.out hst)
     refine wp_region_det 25 (by kernel_rfl) (by kernel_rfl) (by decide) ?_
     iterate 25 ((try simp only [Bool.not_true]); apply Exists.intro; refine And.intro ?_ ?_; (focus (intro W hW; (try simp only [Act.put, List.setIfInBounds_toArray, List.set_cons_zero, List.set_cons_succ]); first | (exact wpList_skip rfl ⟨rfl, rfl, Below.refl _ _⟩) | (obtain ⟨hcW, hfW⟩ := bcell hW; have hsW := hW.size; (try simp at hsW); (try have hsW0 := lt_of_succ_le hsW); (try (have hsW1 := lt_pred hsW; (try (have hsW2 := lt_pred hsW1)))); go_wp2_with (first | (go_at_call 116; refine (c_spec_l08Text _ _).mono ?_; rintro e w9 ⟨rfl, hb9⟩)); exact ⟨rfl, rfl, bel⟩))))
     intro wq hbwq
     (try simp only [Act.put, List.setIfInBounds_toArray, List.set_cons_zero, List.set_cons_succ])
     (try simp only [List.drop_succ_cons, List.drop_nil])
     have hb := hbwq;go_wp2_with fail
     go_meet
     exact ⟨by rw [HV.out]; rfl, hb⟩
    ·by_cases hk00 : k = 0
     ·have HV := Lib.hid (show keyOk dks k = true by rw [<- hst]; have h := HS.out; subst hk00; exact keyOk_zero h)
      have d0 : decide (0 < k) = false := decide_eq_false (by omega);have dI : decide ((0 : Int) < k) = false := decide_eq_false (by omega);clear hk00;refine wp_region_det 25 (by kernel_rfl) (by kernel_rfl) (by decide) ?_
      iterate 25 ((try simp only [Bool.not_true]); apply Exists.intro; refine And.intro ?_ ?_; (focus (intro W hW; (try simp only [Act.put, List.setIfInBounds_toArray, List.set_cons_zero, List.set_cons_succ]); first | (exact wpList_skip rfl ⟨rfl, rfl, Below.refl _ _⟩) | (obtain ⟨hcW, hfW⟩ := bcell hW; have hsW := hW.size; (try simp at hsW); (try have hsW0 := lt_of_succ_le hsW); (try (have hsW1 := lt_pred hsW; (try (have hsW2 := lt_pred hsW1)))); go_wp2_with (first | (go_at_call 116; refine (c_spec_l08Text _ _).mono ?_; rintro e w9 ⟨rfl, hb9⟩)); exact ⟨rfl, rfl, bel⟩))))
      intro wq hbwq
      (try simp only [Act.put, List.setIfInBounds_toArray, List.set_cons_zero, List.set_cons_succ])
      (try simp only [List.drop_succ_cons, List.drop_nil])
      have hb := hbwq;go_wp2_with fail
      go_meet
      exact ⟨by rw [HV.out]; rfl, hb⟩
     ·obtain ⟨j, hj⟩ : ∃ j, k = j + 1 := ⟨k - 1, by omega⟩
      obtain ⟨r, hr⟩ := exists_at (show j < dks.length by omega);obtain ⟨es, -, hcs, rfl, hrs⟩ := HCl.out j r hr;have hd0 := (hbr.cell (p := ⟨p, o + j * 1 + 0, none⟩) hbl).trans (hcs 0 (by omega));simp at hd0;have d0 : decide (0 < k) = true := decide_eq_true (by omega);have dI : decide ((0 : Int) < k) = true := decide_eq_true (by omega);have HV := Lib.hid (show keyOk dks k = lessS r s by have h := HS.out; subst hj; rw [keyOk_succ h hr, hst, Bool.true_and])
      have hji : (k : Int) - 1 = (j : Int) := by omega
      have hj1 : (0 : Int) <= j := by omega
      have hj2 : (j : Int) < dks.length := by omega
      clear hcs hr hk hlt hj hk00;rcases hls : lessS r s with _ | _
      focus
       have g1 : Op.bytesLess r.toList s.toList = false := hls
      rotate_left
      focus
       have g1 : Op.bytesLess r.toList s.toList = true := hls
      rotate_left
      all_goals
       have HV2 := Lib.hid (HV.out.trans hls);clear hls HV;refine wp_region_det 25 (by kernel_rfl) (by kernel_rfl) (by decide) ?_
       iterate 25 ((try simp only [Bool.not_true]); apply Exists.intro; refine And.intro ?_ ?_; (focus (intro W hW; (try simp only [Act.put, List.setIfInBounds_toArray, List.set_cons_zero, List.set_cons_succ]); first | (exact wpList_skip rfl ⟨rfl, rfl, Below.refl _ _⟩) | (obtain ⟨hcW, hfW⟩ := bcell hW; have hsW := hW.size; (try simp at hsW); (try have hsW0 := lt_of_succ_le hsW); (try (have hsW1 := lt_pred hsW; (try (have hsW2 := lt_pred hsW1)))); go_wp2_with (first | (go_at_call 116; refine (c_spec_l08Text _ _).mono ?_; rintro e w9 ⟨rfl, hb9⟩)); exact ⟨rfl, rfl, bel⟩))))
       intro wq hbwq
       (try simp only [Act.put, List.setIfInBounds_toArray, List.set_cons_zero, List.set_cons_succ])
       (try simp only [List.drop_succ_cons, List.drop_nil])
       have hb := hbwq;go_wp2_with fail
       go_meet
       exact ⟨by rw [HV2.out]; simp_all, hb⟩
   case rest =>
    obtain ⟨rfl, hb9⟩ := hcut;have HT9 := Lib.hid ((hb9.block _ l0).trans HT.out);have hbr9 := hbr.trans (hb9.mono hbr.size);obtain ⟨q3, hq3⟩ : ∃ q, q = keyOk dks k := ⟨_, rfl⟩
    rw [<- hq3];rcases q3 with _ | _
    ·have HX := Lib.hid (show z = false by rw [hE.out, allR_bad _ k _ hlt hq3.symm]; rfl)
     clear hE hq3;go_wp2_with fail
     go_ret
     exact ⟨ret_bool HX.out.symm, bel⟩
    ·have Hn := Lib.hid (show allR (k + 1) (keyOk dks) = true by rw [allR_succ, Hall.out, <- hq3]; rfl)
     clear hq3 hbr hb9 hc0 x0 x1 x2 x3 x4 x5 xf;go_wp2_with fail
     go_roundw
     case rel => exact ⟨k + 1, by omega, by go_num, Hn.out, HT9.out, hbr9⟩
     case measure => simp [intOf]; omega
  ·obtain rfl : k = dks.length := by omega
   have hE2 := Lib.hid (show z = allR dkd.length (kidAt (shapeT n) dkd) by rw [hE.out, Hall.out]; rfl);have hke : decide (dks.length < dks.length) = false := decide_eq_false (Nat.lt_irrefl _);clear hK hE Hall;go_wp2_with fail
   go_loopw [4] (fun v wr => ∃ k : Nat, k <= dkd.length /\ v = .int .i64 k /\ allR k (kidAt (shapeT n) dkd) = true /\ wr.heap[w.heap.size]? = some (.cells #[.int .i64 dk, .bool df, .int .i64 dn, .string dt, .slice A4 dks.length c4, .slice A5 dkd.length c5] 34 (0, 0)) /\ Below w.heap.size w wr) (fun v _ => dkd.length - (intOf v).toNat)
   case atStart => exact ⟨0, Nat.zero_le _, rfl, rfl, HT.out, hbr⟩
   case round =>
    have hb0 := hbr;clear hbr hb0 HT x0 x1 x2 x3 x4 x5 xf l0;obtain ⟨k, hk, rfl, hall, hT, hbr⟩ := hrel;have HT := Lib.hid hT;have Hall := Lib.hid hall;clear hall hT;obtain ⟨x0, x1, x2, x3, x4, x5, xf⟩ := row6 HT.out;have l0 := row_lt HT.out;by_cases hlt : k < dkd.length
    ·obtain ⟨p, o, rfl, -, hbl, hcell⟩ := hA (by omega)
     obtain ⟨t, ht⟩ := exists_at hlt;obtain ⟨es, -, hcs, hC⟩ := hcell k t ht;obtain ⟨eA4, ec4, eA5, ec5, rfl, ea0, ea2, ea3⟩ := hC.flat;have hc0 := (hbr.cell (p := ⟨p, o + k * 6 + 0, none⟩) (by simp; omega)).trans (hcs 0 (by omega));simp at hc0;have hc1 := (hbr.cell (p := ⟨p, o + k * 6 + 1, none⟩) (by simp; omega)).trans (hcs 1 (by omega));simp at hc1;have hc2 := (hbr.cell (p := ⟨p, o + k * 6 + 2, none⟩) (by simp; omega)).trans (hcs 2 (by omega))
     simp at hc2;have hc3 := (hbr.cell (p := ⟨p, o + k * 6 + 3, none⟩) (by simp; omega)).trans (hcs 3 (by omega));simp at hc3;have hc4 := (hbr.cell (p := ⟨p, o + k * 6 + 4, none⟩) (by simp; omega)).trans (hcs 4 (by omega));simp at hc4;have hc5 := (hbr.cell (p := ⟨p, o + k * 6 + 5, none⟩) (by simp; omega)).trans (hcs 5 (by omega));simp at hc5;have hbr1 := Nat.lt_of_lt_of_le hbl hbr.size;have hk0 : (0 : Int) <= k := by omega
     have hk1 : (k : Int) < dkd.length := by omega
     have HC := Lib.hid hC;have HKi := Lib.hid (kidAt_eq (f := shapeT n) ht);clear hcs hcell hA hC ht;rcases q0 : shapeT n t with _ | _
     ·have HX := Lib.hid (show z = false by rw [hE2.out]; exact allR_bad _ k _ hlt (by rw [HKi.out, q0]))
      go_wp2_with (go_at_call 59; refine (ih t _ _ _ (HC.out.now bel)).mono ?_; rintro e w9 ⟨rfl, hb9⟩)
      go_ret
      exact ⟨ret_bool HX.out.symm, bel⟩
     ·have Hn := Lib.hid (show allR (k + 1) (kidAt (shapeT n) dkd) = true by rw [allR_succ, Hall.out, HKi.out, q0]; rfl)
      go_wp2_with (go_at_call 59; refine (ih t _ _ _ (HC.out.now bel)).mono ?_; rintro e w9 ⟨rfl, hb9⟩)
      have HT9 := Lib.hid ((hb9.block _ l0).trans HT.out);go_roundw
      case rel => ((repeat apply Exists.intro); exact ⟨⟨k + 1, by omega, by go_num, Hn.out, HT9.out, bel⟩, rfl⟩)
      case measure => simp [intOf]; omega
    ·obtain rfl : k = dkd.length := by omega
     have HX := Lib.hid (show z = true by rw [hE2.out]; exact Hall.out);clear hA;go_wp2_with fail
     go_ret
     exact ⟨ret_bool HX.out.symm, bel⟩
theorem all_nodS : ∀ n, T_nodS n
 | 0 => fun _ _ _ _ h => (C_Tree.none h).elim
 | n + 1 => of_nodS n (all_nodS n)
def okT (n : Nat) (d : TreeD) : Bool := decide (depthT n d <= 8) && decide (sizeT n d <= 300) && shapeT n d
theorem okT_def (n : Nat) (d : TreeD) : okT n d = (decide (depthT n d <= 8) && decide (sizeT n d <= 300) && shapeT n d) := rfl
theorem c_impl_TreeOk (n : Nat) (d : TreeD) (cs : List Value) (w : World) (lo : Nat) (h : C_Tree n lo w.heap.size w d cs) (hz : sizeT n d <= 1073741824) (hT : Tabs w) :
  Calls Tryz.prog 81 #[.agg cs.toArray] w fun e w' => e = .returned (.bool (okT n d)) /\ Below w.heap.size w w' := by
 have Hf := Lib.hid (okT_def n d);have HD := Lib.hid (fun (w' : World) (hb : Below w.heap.size w w') => all_DepthI n d cs w' lo (h.now hb) hz);have HS := Lib.hid (fun (w' : World) (hb : Below w.heap.size w w') => all_SizeI n d cs w' lo (h.now hb) hz);have HN := Lib.hid (fun (w' : World) (hb : Below w.heap.size w w') => all_nodI n d cs w' lo (h.now hb) (hT.below hb));have hds := depth_size n d;obtain ⟨A4, c4, A5, c5, rfl⟩ := C_Tree.open h
 obtain ⟨x, hx⟩ : ∃ x, x = depthT n d := ⟨_, rfl⟩
 obtain ⟨y, hy⟩ : ∃ y, y = sizeT n d := ⟨_, rfl⟩
 obtain ⟨z, hzz⟩ : ∃ z, z = shapeT n d := ⟨_, rfl⟩
 rw [<- hx, <- hy, <- hzz] at Hf;rw [<- hx] at HD hds;rw [<- hy] at HS hz hds;rw [<- hzz] at HN;clear h hx hy hzz hT;by_cases h8 : x <= 8
 ·have d8 : decide ((x : Int) <= 8) = true := decide_eq_true (by omega)
  by_cases h3 : y <= 300
  ·have d3 : decide ((y : Int) <= 300) = true := decide_eq_true (by omega)
   have HX := Lib.hid (show okT n d = z by rw [Hf.out, decide_eq_true h8, decide_eq_true h3]; rfl);clear h8 h3;go_enter Tryz.func81, Tryz.ntmps81
   go_wp2_with (first | (go_at_call 150; refine (HD.out _ bel).mono ?_; rintro e w1 ⟨rfl, hb⟩; (first | (have hcu2 := Cum.join hcu hb; (try clear hcu); (try clear hc); (try clear hfz); (try clear hsz); (try clear hs0); (try clear hs1); (try clear hs2); (try clear hs3); (try clear hs4); ) | have hcu2 := Cum.mk hb); have hcu := hcu2; clear hcu2; obtain ⟨hc, hfz⟩ := bcell hcu.h; have hsz := hcu.h.size; (try simp at hsz); (try have hs0 := lt_of_succ_le hsz); (try (have hs1 := lt_pred hsz; (try (have hs2 := lt_pred hs1; (try (have hs3 := lt_pred hs2; (try have hs4 := lt_pred hs3)))))))) | (go_at_call 151; refine (HS.out _ bel).mono ?_; rintro e w1 ⟨rfl, hb⟩; (first | (have hcu2 := Cum.join hcu hb; (try clear hcu); (try clear hc); (try clear hfz); (try clear hsz); (try clear hs0); (try clear hs1); (try clear hs2); (try clear hs3); (try clear hs4); ) | have hcu2 := Cum.mk hb); have hcu := hcu2; clear hcu2; obtain ⟨hc, hfz⟩ := bcell hcu.h; have hsz := hcu.h.size; (try simp at hsz); (try have hs0 := lt_of_succ_le hsz); (try (have hs1 := lt_pred hsz; (try (have hs2 := lt_pred hs1; (try (have hs3 := lt_pred hs2; (try have hs4 := lt_pred hs3)))))))) | (go_at_call 152; refine (HN.out _ bel).mono ?_; rintro e w1 ⟨rfl, hb⟩; (first | (have hcu2 := Cum.join hcu hb; (try clear hcu); (try clear hc); (try clear hfz); (try clear hsz); (try clear hs0); (try clear hs1); (try clear hs2); (try clear hs3); (try clear hs4); ) | have hcu2 := Cum.mk hb); have hcu := hcu2; clear hcu2; obtain ⟨hc, hfz⟩ := bcell hcu.h; have hsz := hcu.h.size; (try simp at hsz); (try have hs0 := lt_of_succ_le hsz); (try (have hs1 := lt_pred hsz; (try (have hs2 := lt_pred hs1; (try (have hs3 := lt_pred hs2; (try have hs4 := lt_pred hs3)))))))))
   go_ret
   exact ⟨ret_bool HX.out.symm, bel⟩
  ·have d3 : decide ((y : Int) <= 300) = false := decide_eq_false (by omega)
   have HX := Lib.hid (show okT n d = false by rw [Hf.out, decide_eq_true h8, decide_eq_false h3]; rfl);clear h8 h3;go_enter Tryz.func81, Tryz.ntmps81
   go_wp2_with (first | (go_at_call 150; refine (HD.out _ bel).mono ?_; rintro e w1 ⟨rfl, hb⟩; (first | (have hcu2 := Cum.join hcu hb; (try clear hcu); (try clear hc); (try clear hfz); (try clear hsz); (try clear hs0); (try clear hs1); (try clear hs2); (try clear hs3); (try clear hs4); ) | have hcu2 := Cum.mk hb); have hcu := hcu2; clear hcu2; obtain ⟨hc, hfz⟩ := bcell hcu.h; have hsz := hcu.h.size; (try simp at hsz); (try have hs0 := lt_of_succ_le hsz); (try (have hs1 := lt_pred hsz; (try (have hs2 := lt_pred hs1; (try (have hs3 := lt_pred hs2; (try have hs4 := lt_pred hs3)))))))) | (go_at_call 151; refine (HS.out _ bel).mono ?_; rintro e w1 ⟨rfl, hb⟩; (first | (have hcu2 := Cum.join hcu hb; (try clear hcu); (try clear hc); (try clear hfz); (try clear hsz); (try clear hs0); (try clear hs1); (try clear hs2); (try clear hs3); (try clear hs4); ) | have hcu2 := Cum.mk hb); have hcu := hcu2; clear hcu2; obtain ⟨hc, hfz⟩ := bcell hcu.h; have hsz := hcu.h.size; (try simp at hsz); (try have hs0 := lt_of_succ_le hsz); (try (have hs1 := lt_pred hsz; (try (have hs2 := lt_pred hs1; (try (have hs3 := lt_pred hs2; (try have hs4 := lt_pred hs3)))))))))
   go_ret
   exact ⟨ret_bool HX.out.symm, bel⟩
 ·have d8 : decide ((x : Int) <= 8) = false := decide_eq_false (by omega)
  have HX := Lib.hid (show okT n d = false by rw [Hf.out, decide_eq_false h8]; rfl);clear h8;go_enter Tryz.func81, Tryz.ntmps81
  go_wp2_with (go_at_call 150; refine (HD.out _ bel).mono ?_; rintro e w1 ⟨rfl, hb⟩; (first | (have hcu2 := Cum.join hcu hb; (try clear hcu); (try clear hc); (try clear hfz); (try clear hsz); (try clear hs0); (try clear hs1); (try clear hs2); (try clear hs3); (try clear hs4); ) | have hcu2 := Cum.mk hb); have hcu := hcu2; clear hcu2; obtain ⟨hc, hfz⟩ := bcell hcu.h; have hsz := hcu.h.size; (try simp at hsz); (try have hs0 := lt_of_succ_le hsz); (try (have hs1 := lt_pred hsz; (try (have hs2 := lt_pred hs1; (try (have hs3 := lt_pred hs2; (try have hs4 := lt_pred hs3))))))))
  go_ret
  exact ⟨ret_bool HX.out.symm, bel⟩
theorem c_spec_TreeOk (n : Nat) (d : TreeD) (cs : List Value) (w : World) (lo : Nat) (h : C_Tree n lo w.heap.size w d cs) (hz : sizeT n d <= 1073741824) :
  Calls Tryz.prog 22 #[.agg cs.toArray] w fun e w' => e = .returned (.bool (okT n d)) /\ Below w.heap.size w w' := by
 have Hf := Lib.hid (okT_def n d);have HD := Lib.hid (fun (w' : World) (hb : Below w.heap.size w w') => all_DepthS n d cs w' lo (h.now hb) hz);have HS := Lib.hid (fun (w' : World) (hb : Below w.heap.size w w') => all_SizeS n d cs w' lo (h.now hb) hz);have HN := Lib.hid (fun (w' : World) (hb : Below w.heap.size w w') => all_nodS n d cs w' lo (h.now hb));have hds := depth_size n d;obtain ⟨A4, c4, A5, c5, rfl⟩ := C_Tree.open h
 obtain ⟨x, hx⟩ : ∃ x, x = depthT n d := ⟨_, rfl⟩
 obtain ⟨y, hy⟩ : ∃ y, y = sizeT n d := ⟨_, rfl⟩
 obtain ⟨z, hzz⟩ : ∃ z, z = shapeT n d := ⟨_, rfl⟩
 rw [<- hx, <- hy, <- hzz] at Hf;rw [<- hx] at HD hds;rw [<- hy] at HS hz hds;rw [<- hzz] at HN;clear h hx hy hzz;by_cases h8 : x <= 8
 ·have d8 : decide ((x : Int) <= 8) = true := decide_eq_true (by omega)
  by_cases h3 : y <= 300
  ·have d3 : decide ((y : Int) <= 300) = true := decide_eq_true (by omega)
   have HX := Lib.hid (show okT n d = z by rw [Hf.out, decide_eq_true h8, decide_eq_true h3]; rfl);clear h8 h3;go_enter Tryz.func22, Tryz.ntmps22
   go_wp2_with (first | (go_at_call 57; refine (HD.out _ bel).mono ?_; rintro e w1 ⟨rfl, hb⟩; (first | (have hcu2 := Cum.join hcu hb; (try clear hcu); (try clear hc); (try clear hfz); (try clear hsz); (try clear hs0); (try clear hs1); (try clear hs2); (try clear hs3); (try clear hs4); ) | have hcu2 := Cum.mk hb); have hcu := hcu2; clear hcu2; obtain ⟨hc, hfz⟩ := bcell hcu.h; have hsz := hcu.h.size; (try simp at hsz); (try have hs0 := lt_of_succ_le hsz); (try (have hs1 := lt_pred hsz; (try (have hs2 := lt_pred hs1; (try (have hs3 := lt_pred hs2; (try have hs4 := lt_pred hs3)))))))) | (go_at_call 58; refine (HS.out _ bel).mono ?_; rintro e w1 ⟨rfl, hb⟩; (first | (have hcu2 := Cum.join hcu hb; (try clear hcu); (try clear hc); (try clear hfz); (try clear hsz); (try clear hs0); (try clear hs1); (try clear hs2); (try clear hs3); (try clear hs4); ) | have hcu2 := Cum.mk hb); have hcu := hcu2; clear hcu2; obtain ⟨hc, hfz⟩ := bcell hcu.h; have hsz := hcu.h.size; (try simp at hsz); (try have hs0 := lt_of_succ_le hsz); (try (have hs1 := lt_pred hsz; (try (have hs2 := lt_pred hs1; (try (have hs3 := lt_pred hs2; (try have hs4 := lt_pred hs3)))))))) | (go_at_call 59; refine (HN.out _ bel).mono ?_; rintro e w1 ⟨rfl, hb⟩; (first | (have hcu2 := Cum.join hcu hb; (try clear hcu); (try clear hc); (try clear hfz); (try clear hsz); (try clear hs0); (try clear hs1); (try clear hs2); (try clear hs3); (try clear hs4); ) | have hcu2 := Cum.mk hb); have hcu := hcu2; clear hcu2; obtain ⟨hc, hfz⟩ := bcell hcu.h; have hsz := hcu.h.size; (try simp at hsz); (try have hs0 := lt_of_succ_le hsz); (try (have hs1 := lt_pred hsz; (try (have hs2 := lt_pred hs1; (try (have hs3 := lt_pred hs2; (try have hs4 := lt_pred hs3)))))))))
   go_ret
   exact ⟨ret_bool HX.out.symm, bel⟩
  ·have d3 : decide ((y : Int) <= 300) = false := decide_eq_false (by omega)
   have HX := Lib.hid (show okT n d = false by rw [Hf.out, decide_eq_true h8, decide_eq_false h3]; rfl);clear h8 h3;go_enter Tryz.func22, Tryz.ntmps22
   go_wp2_with (first | (go_at_call 57; refine (HD.out _ bel).mono ?_; rintro e w1 ⟨rfl, hb⟩; (first | (have hcu2 := Cum.join hcu hb; (try clear hcu); (try clear hc); (try clear hfz); (try clear hsz); (try clear hs0); (try clear hs1); (try clear hs2); (try clear hs3); (try clear hs4); ) | have hcu2 := Cum.mk hb); have hcu := hcu2; clear hcu2; obtain ⟨hc, hfz⟩ := bcell hcu.h; have hsz := hcu.h.size; (try simp at hsz); (try have hs0 := lt_of_succ_le hsz); (try (have hs1 := lt_pred hsz; (try (have hs2 := lt_pred hs1; (try (have hs3 := lt_pred hs2; (try have hs4 := lt_pred hs3)))))))) | (go_at_call 58; refine (HS.out _ bel).mono ?_; rintro e w1 ⟨rfl, hb⟩; (first | (have hcu2 := Cum.join hcu hb; (try clear hcu); (try clear hc); (try clear hfz); (try clear hsz); (try clear hs0); (try clear hs1); (try clear hs2); (try clear hs3); (try clear hs4); ) | have hcu2 := Cum.mk hb); have hcu := hcu2; clear hcu2; obtain ⟨hc, hfz⟩ := bcell hcu.h; have hsz := hcu.h.size; (try simp at hsz); (try have hs0 := lt_of_succ_le hsz); (try (have hs1 := lt_pred hsz; (try (have hs2 := lt_pred hs1; (try (have hs3 := lt_pred hs2; (try have hs4 := lt_pred hs3)))))))))
   go_ret
   exact ⟨ret_bool HX.out.symm, bel⟩
 ·have d8 : decide ((x : Int) <= 8) = false := decide_eq_false (by omega)
  have HX := Lib.hid (show okT n d = false by rw [Hf.out, decide_eq_false h8]; rfl);clear h8;go_enter Tryz.func22, Tryz.ntmps22
  go_wp2_with (go_at_call 57; refine (HD.out _ bel).mono ?_; rintro e w1 ⟨rfl, hb⟩; (first | (have hcu2 := Cum.join hcu hb; (try clear hcu); (try clear hc); (try clear hfz); (try clear hsz); (try clear hs0); (try clear hs1); (try clear hs2); (try clear hs3); (try clear hs4); ) | have hcu2 := Cum.mk hb); have hcu := hcu2; clear hcu2; obtain ⟨hc, hfz⟩ := bcell hcu.h; have hsz := hcu.h.size; (try simp at hsz); (try have hs0 := lt_of_succ_le hsz); (try (have hs1 := lt_pred hsz; (try (have hs2 := lt_pred hs1; (try (have hs3 := lt_pred hs2; (try have hs4 := lt_pred hs3))))))))
  go_ret
  exact ⟨ret_bool HX.out.symm, bel⟩
open Go.RowKit Go.Lib
def litN : List UInt8 := [110, 117, 108, 108]
def litT : List UInt8 := [116, 114, 117, 101]
def litF : List UInt8 := [102, 97, 108, 115, 101]
def itemsT (pre : Nat -> List UInt8) (f : TreeD -> List UInt8) (l : List TreeD) : Nat -> List UInt8
 | 0 => []
 | k + 1 => itemsT pre f l k ++ (match l[k]? with | none => [] | some t => (if k = 0 then [] else [44]) ++ pre k ++ f t)
def preM (ks : List ByteArray) (i : Nat) : List UInt8 := match ks[i]? with | none => [] | some k => (quoteB k).data.toList ++ [58]
def sayL : Nat -> TreeD -> List UInt8
 | 0, _ => []
 | n + 1, d => if d.kind = 1 then litN else if d.kind = 2 then (if d.flag then litT else litF) else if d.kind = 3 then (decS d.num).data.toList else if d.kind = 4 then (quoteB d.text).data.toList
  else if d.kind = 5 then [91] ++ itemsT (fun _ => []) (sayL n) d.kids d.kids.length ++ [93] else [123] ++ itemsT (preM d.keys) (sayL n) d.kids d.kids.length ++ [125]
theorem sayL_succ (n : Nat) (d : TreeD) : sayL (n + 1) d = if d.kind = 1 then litN else if d.kind = 2 then (if d.flag then litT else litF) else if d.kind = 3 then (decS d.num).data.toList else if d.kind = 4 then (quoteB d.text).data.toList
  else if d.kind = 5 then [91] ++ itemsT (fun _ => []) (sayL n) d.kids d.kids.length ++ [93] else [123] ++ itemsT (preM d.keys) (sayL n) d.kids d.kids.length ++ [125] := rfl
theorem items_next {pre : Nat -> List UInt8} {f : TreeD -> List UInt8} {l : List TreeD} {k : Nat} {t : TreeD} (h : l[k]? = some t) : itemsT pre f l (k + 1) = itemsT pre f l k ++ ((if k = 0 then [] else [44]) ++ pre k ++ f t) := by
 rw [itemsT, h]
theorem quote_len (s : ByteArray) : (quoteB s).data.toList.length <= 6 * s.size + 2 := by
 unfold quoteB;split
 ·have h : ∀ l : List UInt8, (l.flatMap qB).length <= 6 * l.length := by
   intro l;induction l with
   | nil => simp
   | cons c l ih =>
    have := qN_len c.toNat;rw [List.flatMap_cons, List.length_append, List.length_cons];have h2 : (qB c).length <= 6 := this;omega
  have h1 := h s.data.toList;have e : s.data.toList.length = s.size := Array.length_toList;show (34 :: s.data.toList.flatMap qB ++ [34]).length <= _
  rw [List.length_append, List.length_cons];simp only [List.length_cons, List.length_nil];omega
 ·show (0 : Nat) <= _
  omega
theorem shape_parts {n : Nat} {d : TreeD} (h : shapeT (n + 1) d = true) : badH d = false /\ strB d.text = true /\ lensOk d = true /\ (∀ i, i < d.keys.length -> keyOk d.keys i = true) /\ ∀ i, i < d.kids.length -> kidAt (shapeT n) d.kids i = true := by
 rw [shapeT_succ] at h;simp only [Bool.and_eq_true, Bool.not_eq_true'] at h;obtain ⟨⟨⟨⟨h1, h2⟩, h3⟩, h4⟩, h5⟩ := h
 have hall : ∀ {m : Nat} {p : Nat -> Bool}, allR m p = true -> ∀ i, i < m -> p i = true := fun {m p} ha i hi => by
  unfold allR at ha;exact List.all_eq_true.1 ha i (List.mem_range.2 hi)
 exact ⟨h1, h2, h3, hall h4, hall h5⟩
theorem shape_kid {n k : Nat} {d t : TreeD} (h : shapeT (n + 1) d = true) (ht : d.kids[k]? = some t) : shapeT n t = true := by
 have := (shape_parts h).2.2.2.2 k (List.getElem?_eq_some_iff.1 ht).1;rw [kidAt_eq ht] at this;exact this
theorem shape_key {n k : Nat} {d : TreeD} {s : ByteArray} (h : shapeT (n + 1) d = true) (hs : d.keys[k]? = some s) : s.size <= 400 := by
 have := (shape_parts h).2.2.2.1 k (List.getElem?_eq_some_iff.1 hs).1;unfold keyOk at this;rw [hs] at this;simp only [Bool.and_eq_true] at this;have h2 := this.1;unfold strB at h2;simp only [Bool.and_eq_true, decide_eq_true_eq] at h2;exact h2.1
theorem pre_len {n : Nat} {d : TreeD} (h : shapeT (n + 1) d = true) (i : Nat) : (preM d.keys i).length <= 2403 := by
 unfold preM;rcases hs : d.keys[i]? with _ | s
 ·exact Nat.zero_le _
 ·have h1 := quote_len s
  have h2 := shape_key h hs;simp only [List.length_append, List.length_cons, List.length_nil];omega
theorem items_len {pre : Nat -> List UInt8} {f : TreeD -> List UInt8} {g : TreeD -> Nat} {l : List TreeD} (hp : ∀ i, (pre i).length <= 2403) (hf : ∀ t ∈ l, (f t).length + 2404 <= 5000 * g t) : ∀ k, k <= l.length -> (itemsT pre f l k).length <= 5000 * szL g (l.take k)
 | 0, _ => Nat.zero_le _
 | k + 1, hk => by
  obtain ⟨t, ht⟩ := exists_at (show k < l.length by omega);have h1 := items_len hp hf k (by omega);have h2 := hf t (List.mem_of_getElem? ht);have h3 := hp k;rw [items_next ht, szL_take_succ g l k t ht];have h4 : (if k = 0 then ([] : List UInt8) else [44]).length <= 1 := by split <;> simp
  simp only [List.length_append];omega
def numT : Nat -> TreeD -> Prop
 | 0, _ => True
 | n + 1, d => I64 d.num /\ ∀ t ∈ d.kids, numT n t
theorem num_of : ∀ {n lo hi : Nat} {w : World} {d : TreeD} {cs : List Value}, C_Tree n lo hi w d cs -> numT n d
 | 0, _, _, _, _, _, h => h.none.elim
 | n + 1, lo, hi, w, d, cs, h => by
  obtain ⟨v4, v5, -, -, a2, -, -, A, c, -, -, -, hA⟩ := h.out;refine ⟨a2, fun t ht => ?_⟩;obtain ⟨i, hi⟩ := List.getElem?_of_mem ht;obtain ⟨b, o, -, -, -, hc⟩ := hA (Nat.lt_of_le_of_lt (Nat.zero_le i) (List.getElem?_eq_some_iff.1 hi).1);obtain ⟨es, -, -, he⟩ := hc i t hi;exact num_of he
theorem say_len : ∀ (n : Nat) (d : TreeD), shapeT n d = true -> numT n d -> (sayL n d).length + 2404 <= 5000 * sizeT n d
 | 0, _, h, _ => by cases h
 | n + 1, d, h, hn => by
  have hz : 1 <= sizeT (n + 1) d := by rw [sizeT_succ]; omega
  have hkids : ∀ t ∈ d.kids, (sayL n t).length + 2404 <= 5000 * sizeT n t := fun t ht => by
   obtain ⟨i, hi⟩ := List.getElem?_of_mem ht;exact say_len n t (shape_kid h hi) (hn.2 t ht)
  have hsz : sizeT (n + 1) d = 1 + szL (sizeT n) d.kids := rfl;have htk : d.kids.take d.kids.length = d.kids := List.take_of_length_le (Nat.le_refl _);rw [sayL_succ];by_cases c1 : d.kind = 1
  ·rw [if_pos c1]
   have : litN.length = 4 := rfl;omega
  rw [if_neg c1];by_cases c2 : d.kind = 2
  ·rw [if_pos c2]
   have h1 : litT.length = 4 := rfl;have h2 : litF.length = 5 := rfl;split <;> omega
  rw [if_neg c2];by_cases c3 : d.kind = 3
  ·rw [if_pos c3]
   have h20 := decS_size d.num hn.1;have he : (decS d.num).data.toList.length = (decS d.num).size := Array.length_toList;omega
  rw [if_neg c3];by_cases c4 : d.kind = 4
  ·rw [if_pos c4]
   have h1 := quote_len d.text;have h2 := (shape_parts h).2.1;unfold strB at h2;simp only [Bool.and_eq_true, decide_eq_true_eq] at h2;omega
  rw [if_neg c4];by_cases c5 : d.kind = 5
  ·rw [if_pos c5]
   have h1 := items_len (pre := fun _ => []) (f := sayL n) (g := sizeT n) (l := d.kids) (fun _ => Nat.zero_le _) hkids d.kids.length (Nat.le_refl _);rw [htk] at h1;simp only [List.length_append, List.length_cons, List.length_nil];omega
  ·rw [if_neg c5]
   have h1 := items_len (pre := preM d.keys) (f := sayL n) (g := sizeT n) (l := d.kids) (pre_len h) hkids d.kids.length (Nat.le_refl _);rw [htk] at h1;simp only [List.length_append, List.length_cons, List.length_nil];omega
def cutA : List UInt8 -> List UInt8 -> List (List UInt8)
 | acc, [] => [acc]
 | acc, c :: r => if c = 10 then acc :: cutA [] r else cutA (acc ++ [c]) r
def scanB : Bool -> Bool -> List UInt8 -> Nat
 | _, _, [] => 0
 | _, true, [_] => 1
 | _, true, c :: d :: r => if c = 92 then 2 + scanB false true r else 1 + scanB false (c != 34) (d :: r)
 | first, false, c :: r => if first && c == 34 then 1 + scanB false true r else if first && c == 35 then 0 else 1 + scanB (c == 32) false r
def bareL (l : List UInt8) : List UInt8 := trimRightB (l.take (scanB true false l)) 32
def indL (l : List UInt8) : Nat := l.length - (trimLeftB l 32).length
structure LineD where
 ind : Nat
 text : ByteArray
 at' : Nat
def bs (l : List UInt8) : ByteArray := ⟨l.toArray⟩
def lineO (i : Nat) (l : List UInt8) : List LineD := if bareL l = [] then [] else [⟨indL (bareL l), bs (trimLeftB (bareL l) 32), i⟩]
def lowB (l : List UInt8) : Bool := l.any fun c => decide (c.toNat < 32)
def linesK (P : List (List UInt8)) : Nat -> List LineD
 | 0 => []
 | k + 1 => linesK P k ++ (match P[k]? with | some l => lineO (k + 1) l | none => [])
def linesF (s : ByteArray) : List LineD × Flt :=
 if (textF s).code ≠ 0 then ([], textF s) else match (cutA [] s.data.toList).findIdx? lowB with
  | some k => ([], ⟨3, ((k + 1 : Nat) : Int), ⟨#[]⟩⟩)
  | none => (linesK (cutA [] s.data.toList) (cutA [] s.data.toList).length, flt0)
def endsB (s : ByteArray) (i : Nat) : Bool := decide (i < s.size) && decide (byteI s i = 58) && (decide (i + 1 = s.size) || decide (byteI s (i + 1) = 32))
def firstBad : List UInt8 := [45, 63, 58, 44, 91, 93, 123, 125, 38, 42, 33, 124, 62, 39, 37, 64, 96]
def plainC (s : ByteArray) (i : Nat) : Bool := !(decide (byteI s i < 32) || decide (byteI s i = 34) || decide (byteI s i = 35) || decide (byteI s i = 92) || endsB s i)
def figsB (s : ByteArray) : Bool := s.data.toList.all fun c => decide (48 <= c.toNat) && decide (c.toNat <= 57)
def plainB (s : ByteArray) : Bool :=
 decide (1 <= s.size) && decide (s.size <= 400) && utf8B s && !(firstBad.any fun c => decide (byteI s 0 = (c.toNat : Int))) && !(decide (byteI s 0 = 32)) && !(decide (byteI s (s.size - 1) = 32)) && allR s.size (plainC s) && !figsB s
  && !(decide (s = bs [110, 117, 108, 108])) && !(decide (s = bs [126])) && !(decide (s = bs [116, 114, 117, 101])) && !(decide (s = bs [102, 97, 108, 115, 101]))
def findE (s : ByteArray) : Nat -> Nat -> Option Nat
 | 0, _ => none
 | f + 1, i => if i < s.size then (if endsB s i then some i else findE s f (i + 1)) else none
def tailL (s : ByteArray) (i : Nat) : ByteArray := bs (trimLeftB (s.data.toList.drop i) 32)
def keyB (s : ByteArray) : Option (ByteArray × ByteArray) :=
 if 0 < s.size /\ byteI s 0 = 34 then (if 0 <= (quotB s 0).2 /\ endsB s (quotB s 0).2.toNat = true then some ((quotB s 0).1, tailL s ((quotB s 0).2.toNat + 1)) else none)
 else match findE s s.size 0 with
  | none => none
  | some i => if plainB (bs (s.data.toList.take i)) then some (bs (s.data.toList.take i), tailL s (i + 1)) else none
def itemB (s : ByteArray) : Option (ByteArray × Nat) :=
 if s = bs [45] then some (bs [], 0) else if 2 <= s.size /\ byteI s 0 = 45 /\ byteI s 1 = 32 then some (tailL s 2, s.size - (tailL s 2).size) else none
def scalB (s : ByteArray) : Option TreeD :=
 if s = bs [91, 93] then some (tList []) else if s = bs [123, 125] then some (tMap [] []) else if s = bs [110, 117, 108, 108] ∨ s = bs [126] then some tNull
 else if s = bs [116, 114, 117, 101] then some (tFlag true) else if s = bs [102, 97, 108, 115, 101] then some (tFlag false)
 else if 0 < s.size /\ byteI s 0 = 34 then (if (quotB s 0).2 = s.size /\ (quotB s 0).1.size <= 400 then some (tText (quotB s 0).1) else none)
 else if (wholeB s 0).2 = s.size /\ 0 < (wholeB s 0).2 then some (tInt (wholeB s 0).1)
 else if plainB s then some (tText s) else none
def treeE : TreeD := ⟨0, false, 0, ⟨#[]⟩, [], []⟩
inductive JobI where
 | value (deep : Nat)
 | below (ind deep at' : Nat)
 | list (ind deep : Nat) (acc : List TreeD)
 | pairs (ind deep : Nat) (ks : List ByteArray) (acc : List TreeD)
inductive ResI where
 | bad (f : Flt)
 | good (t : TreeD) (L : List LineD) (m : Nat)
def fltA (code : Int) (at' : Nat) : Flt := ⟨code, at', ⟨#[]⟩⟩
def beginF (d m at' : Nat) : Option Flt := if 8 < d then some (fltA 6 at') else if 300 <= m then some (fltA 7 at') else none
def readK : Nat -> JobI -> List LineD -> Nat -> ResI
 | 0, _, _, _ => .bad flt0
 | n + 1, .value d, L, m => match L with
  | [] => .bad flt0
  | x :: r => match beginF d m x.at' with
   | some f => .bad f
   | none =>
    if (itemB x.text).isSome then readK n (.list x.ind d []) (x :: r) (m + 1)
    else if (keyB x.text).isSome then readK n (.pairs x.ind d [] []) (x :: r) (m + 1)
    else match scalB x.text with
     | some t => .good t r (m + 1)
     | none => .bad (fltA 4 x.at')
 | n + 1, .below i d a, L, m =>
  if (match L with | [] => false | x :: _ => decide (i < x.ind)) then readK n (.value d) L m
  else match beginF d m a with
   | some f => .bad f
   | none => .good tNull L (m + 1)
 | n + 1, .list i d acc, L, m => match L with
  | [] => .good (tList acc) [] m
  | x :: r => if x.ind ≠ i then .good (tList acc) (x :: r) m else match itemB x.text with
   | none => .good (tList acc) (x :: r) m
   | some (rest, k) => match (if k = 0 then readK n (.below i (d + 1) x.at') r m else readK n (.value (d + 1)) (⟨i + k, rest, x.at'⟩ :: r) m) with
    | .bad f => .bad f
    | .good t L' m' => readK n (.list i d (acc ++ [t])) L' m'
 | n + 1, .pairs i d ks acc, L, m => match L with
  | [] => .good (tMap ks acc) [] m
  | x :: r => if x.ind ≠ i ∨ (itemB x.text).isSome then .good (tMap ks acc) (x :: r) m else match keyB x.text with
   | none => .good (tMap ks acc) (x :: r) m
   | some (key, rest) =>
    if 400 < key.size then .bad (fltA 8 x.at')
    else if ks.contains key then .bad (fltA 5 x.at')
    else match (if rest.size = 0 then readK n (.below i (d + 1) x.at') r m else match beginF (d + 1) m x.at' with
      | some f => .bad f
      | none => match scalB rest with
       | none => .bad (fltA 4 x.at')
       | some t => .good t r (m + 1)) with
     | .bad f => .bad f
     | .good t L' m' => readK n (.pairs i d (insL ks (posK ks key) key) (insL acc (posK ks key) t)) L' m'
def costL (L : List LineD) : Nat := szL (fun x => x.text.size + 3) L
def readIn (s : ByteArray) : Flt × TreeD :=
 if (linesF s).2.code ≠ 0 then ((linesF s).2, treeE) else match (linesF s).1 with
  | [] => (fltA 4 (cutA [] s.data.toList).length, treeE)
  | x :: r => if x.ind ≠ 0 then (fltA 4 x.at', treeE) else match readK (3 * costL (x :: r) + 3) (.value 1) (x :: r) 0 with
   | .bad f => (f, treeE)
   | .good t [] _ => (flt0, t)
   | .good _ (y :: _) _ => (fltA 4 y.at', treeE)
def keyText (s : ByteArray) : ByteArray := if plainB s then s else quoteB s
def scalText (d : TreeD) : ByteArray := if d.kind = 4 then keyText d.text else if d.kind = 5 then bs [91, 93] else if d.kind = 6 then bs [123, 125] else if d.kind = 1 then bs litN else if d.kind = 2 then (if d.flag then bs litT else bs litF) else decS d.num
def blank2 (L : List (List UInt8)) : List (List UInt8) := L.map fun x => [32, 32] ++ x
def kidLines (f : TreeD -> List (List UInt8)) (d : TreeD) (i : Nat) : List (List UInt8) := match d.kids[i]? with
 | none => []
 | some t => if d.kind = 6 then (match d.keys[i]? with
   | none => []
   | some k => if t.kids = [] then [(keyText k).data.toList ++ [58, 32] ++ (f t).headD []] else ((keyText k).data.toList ++ [58]) :: blank2 (f t))
  else (match f t with | [] => [] | x :: r => ([45, 32] ++ x) :: blank2 r)
def manyL (g : Nat -> List (List UInt8)) : Nat -> List (List UInt8)
 | 0 => []
 | k + 1 => manyL g k ++ g k
def linesT : Nat -> TreeD -> List (List UInt8)
 | 0, _ => []
 | n + 1, d => if d.kids = [] then [(scalText d).data.toList] else manyL (kidLines (linesT n) d) d.kids.length
def textL (L : List (List UInt8)) : List UInt8 := L.flatMap fun x => x ++ [10]
def indB (n : Nat) (d : TreeD) : ByteArray := if okT n d = true then (if 20000 < (textL (linesT n d)).length then ⟨#[]⟩ else bs (textL (linesT n d))) else ⟨#[]⟩
open Go.Shelf
def laysTrimL_ren : Go.Shelf.Ren := ⟨fun | 161 => 175 | 231 => 230 | 227 => 227 | 233 => 231 | 235 => 232 | 228 => 258 | 197 => 224 | 151 => 260 | 260 => 257 | 152 => 279 | 137 => 130 | 119 => 292 | 224 => 234 | 225 => 233 | 217 => 208 | 266 => 249 | n => n, fun | 9 => 9 | 4 => 4 | 3 => 3 | 5 => 5 | 117 => 186 | 116 => 185 | 0 => 0 | 124 => 189 | 105 => 180 | 21 => 21 | 119 => 219 | 46 => 179 | 139 => 222 | 138 => 221 | n => n, fun | 3 => 1 | 4 => 2 | n => n⟩
theorem laysTrimL : Go.Proofs.Lays.n161 Tryz.prog laysTrimL_ren := {
 mixed := by kernel_rfl
 f119 := Tryz.func292.trans (congrArg some (by kernel_rfl))
 f137 := Tryz.func130.trans (congrArg some (by kernel_rfl))
 f151 := Tryz.func260.trans (congrArg some (by kernel_rfl))
 f152 := Tryz.func279.trans (congrArg some (by kernel_rfl))
 f161 := Tryz.func175.trans (congrArg some (by kernel_rfl))
 f197 := Tryz.func224.trans (congrArg some (by kernel_rfl))
 f217 := Tryz.func208.trans (congrArg some (by kernel_rfl))
 f224 := Tryz.func234.trans (congrArg some (by kernel_rfl))
 f225 := Tryz.func233.trans (congrArg some (by kernel_rfl))
 f227 := Tryz.func227.trans (congrArg some (by kernel_rfl))
 f228 := Tryz.func258.trans (congrArg some (by kernel_rfl))
 f231 := Tryz.func230.trans (congrArg some (by kernel_rfl))
 f233 := Tryz.func231.trans (congrArg some (by kernel_rfl))
 f235 := Tryz.func232.trans (congrArg some (by kernel_rfl))
 f260 := Tryz.func257.trans (congrArg some (by kernel_rfl))
 f266 := Tryz.func249.trans (congrArg some (by kernel_rfl))
 t0 := Tryz.underlying0
 a0 := Tryz.isAgg0
 z0 := Tryz.sizeOf0
 v0 := Tryz.zeroValue0
 t3 := Tryz.underlying3
 a3 := Tryz.isAgg3
 z3 := Tryz.sizeOf3
 v3 := Tryz.zeroValue3
 t4 := Tryz.underlying4
 a4 := Tryz.isAgg4
 z4 := Tryz.sizeOf4
 v4 := Tryz.zeroValue4
 t5 := Tryz.underlying5
 a5 := Tryz.isAgg5
 z5 := Tryz.sizeOf5
 v5 := Tryz.zeroValue5
 t9 := Tryz.underlying9
 a9 := Tryz.isAgg9
 z9 := Tryz.sizeOf9
 v9 := Tryz.zeroValue9
 t21 := Tryz.underlying21
 a21 := Tryz.isAgg21
 z21 := Tryz.sizeOf21
 v21 := Tryz.zeroValue21
 t46 := Tryz.underlying179
 a46 := Tryz.isAgg179
 z46 := Tryz.sizeOf179
 v46 := Tryz.zeroValue179
 t105 := Tryz.underlying180
 a105 := Tryz.isAgg180
 z105 := Tryz.sizeOf180
 v105 := Tryz.zeroValue180
 t116 := Tryz.underlying185
 a116 := Tryz.isAgg185
 z116 := Tryz.sizeOf185
 t117 := Tryz.underlying186
 a117 := Tryz.isAgg186
 z117 := Tryz.sizeOf186
 v117 := Tryz.zeroValue186
 t119 := Tryz.underlying219
 a119 := Tryz.isAgg219
 z119 := Tryz.sizeOf219
 t124 := Tryz.underlying189
 a124 := Tryz.isAgg189
 z124 := Tryz.sizeOf189
 v124 := Tryz.zeroValue189
 t138 := Tryz.underlying221
 a138 := Tryz.isAgg221
 z138 := Tryz.sizeOf221
 v138 := Tryz.zeroValue221
 t139 := Tryz.underlying222
 a139 := Tryz.isAgg222
 z139 := Tryz.sizeOf222
 v139 := Tryz.zeroValue222
 g3 := by kernel_rfl
 g4 := by kernel_rfl }
def laysTrimR_ren : Go.Shelf.Ren := ⟨fun | 162 => 174 | 232 => 226 | 227 => 227 | 234 => 228 | 236 => 229 | 228 => 258 | 271 => 259 | 151 => 260 | 120 => 278 | 197 => 224 | 152 => 279 | 260 => 257 | 137 => 130 | 119 => 292 | 224 => 234 | 225 => 233 | 217 => 208 | 266 => 249 | n => n, fun | 9 => 9 | 4 => 4 | 3 => 3 | 5 => 5 | 117 => 186 | 116 => 185 | 0 => 0 | 124 => 189 | 21 => 21 | 105 => 180 | 46 => 179 | 119 => 219 | 139 => 222 | 138 => 221 | n => n, fun | 3 => 1 | 4 => 2 | n => n⟩
theorem laysTrimR : Go.Proofs.Lays.n162 Tryz.prog laysTrimR_ren := {
 mixed := by kernel_rfl
 f119 := Tryz.func292.trans (congrArg some (by kernel_rfl))
 f120 := Tryz.func278.trans (congrArg some (by kernel_rfl))
 f137 := Tryz.func130.trans (congrArg some (by kernel_rfl))
 f151 := Tryz.func260.trans (congrArg some (by kernel_rfl))
 f152 := Tryz.func279.trans (congrArg some (by kernel_rfl))
 f162 := Tryz.func174.trans (congrArg some (by kernel_rfl))
 f197 := Tryz.func224.trans (congrArg some (by kernel_rfl))
 f217 := Tryz.func208.trans (congrArg some (by kernel_rfl))
 f224 := Tryz.func234.trans (congrArg some (by kernel_rfl))
 f225 := Tryz.func233.trans (congrArg some (by kernel_rfl))
 f227 := Tryz.func227.trans (congrArg some (by kernel_rfl))
 f228 := Tryz.func258.trans (congrArg some (by kernel_rfl))
 f232 := Tryz.func226.trans (congrArg some (by kernel_rfl))
 f234 := Tryz.func228.trans (congrArg some (by kernel_rfl))
 f236 := Tryz.func229.trans (congrArg some (by kernel_rfl))
 f260 := Tryz.func257.trans (congrArg some (by kernel_rfl))
 f266 := Tryz.func249.trans (congrArg some (by kernel_rfl))
 f271 := Tryz.func259.trans (congrArg some (by kernel_rfl))
 t0 := Tryz.underlying0
 a0 := Tryz.isAgg0
 z0 := Tryz.sizeOf0
 v0 := Tryz.zeroValue0
 t3 := Tryz.underlying3
 a3 := Tryz.isAgg3
 z3 := Tryz.sizeOf3
 v3 := Tryz.zeroValue3
 t4 := Tryz.underlying4
 a4 := Tryz.isAgg4
 z4 := Tryz.sizeOf4
 v4 := Tryz.zeroValue4
 t5 := Tryz.underlying5
 a5 := Tryz.isAgg5
 z5 := Tryz.sizeOf5
 v5 := Tryz.zeroValue5
 t9 := Tryz.underlying9
 a9 := Tryz.isAgg9
 z9 := Tryz.sizeOf9
 v9 := Tryz.zeroValue9
 t21 := Tryz.underlying21
 a21 := Tryz.isAgg21
 z21 := Tryz.sizeOf21
 v21 := Tryz.zeroValue21
 t46 := Tryz.underlying179
 a46 := Tryz.isAgg179
 z46 := Tryz.sizeOf179
 v46 := Tryz.zeroValue179
 t105 := Tryz.underlying180
 a105 := Tryz.isAgg180
 z105 := Tryz.sizeOf180
 v105 := Tryz.zeroValue180
 t116 := Tryz.underlying185
 a116 := Tryz.isAgg185
 z116 := Tryz.sizeOf185
 t117 := Tryz.underlying186
 a117 := Tryz.isAgg186
 z117 := Tryz.sizeOf186
 v117 := Tryz.zeroValue186
 t119 := Tryz.underlying219
 a119 := Tryz.isAgg219
 z119 := Tryz.sizeOf219
 t124 := Tryz.underlying189
 a124 := Tryz.isAgg189
 z124 := Tryz.sizeOf189
 v124 := Tryz.zeroValue189
 t138 := Tryz.underlying221
 a138 := Tryz.isAgg221
 z138 := Tryz.sizeOf221
 v138 := Tryz.zeroValue221
 t139 := Tryz.underlying222
 a139 := Tryz.isAgg222
 z139 := Tryz.sizeOf222
 v139 := Tryz.zeroValue222
 g3 := by kernel_rfl
 g4 := by kernel_rfl }
theorem get_byte (s : ByteArray) (i : Nat) (h : i < s.size) : (s[i]'h).toNat = (s.get! i).toNat := by
 show _ = (s.data[i]!).toNat
 rw [getElem!_pos s.data i h];rfl
theorem c_TrimLeft (s : ByteArray) (w : World) : Calls Tryz.prog 175 #[.string s, .string ⟨#[32]⟩] w fun e w' => e = .returned (.string (bs (trimLeftB s.data.toList 32))) /\ w = w' := by
 have h := Any.strings_TrimLeft_one laysTrimL s 32 (by decide) w;change Calls Tryz.prog 175 _ _ _ at h
 exact h.mono (fun _ _ h => ⟨h.1, h.2.symm⟩)
theorem c_TrimRight (s : ByteArray) (w : World) (hs : s.size <= 9223372036854775807) : Calls Tryz.prog 174 #[.string s, .string ⟨#[32]⟩] w fun e w' => e = .returned (.string (bs (trimRightB s.data.toList 32))) /\ w = w' := by
 have h := Any.strings_TrimRight_one laysTrimR s 32 (by decide) w hs;change Calls Tryz.prog 174 _ _ _ at h
 exact h.mono (fun _ _ h => ⟨h.1, h.2.symm⟩)
theorem trimL_len (l : List UInt8) (c : UInt8) : (trimLeftB l c).length <= l.length := (List.dropWhile_sublist _).length_le
theorem trimR_len (l : List UInt8) (c : UInt8) : (trimRightB l c).length <= l.length := by unfold trimRightB; rw [List.length_reverse]; exact Nat.le_trans (List.dropWhile_sublist _).length_le (Nat.le_of_eq List.length_reverse)
theorem list_size (s : ByteArray) : s.data.toList.length = s.size := Array.length_toList
theorem byte_list {s : ByteArray} {i : Nat} (h : i < s.size) : s.data.toList[i]? = some (s.get! i) := by
 have h2 : i < s.data.toList.length := by rw [list_size]; exact h
 rw [List.getElem?_eq_getElem h2, Array.getElem_toList];congr 1
 exact (getElem!_pos s.data i h).symm
theorem c_impl_IndentOf (s : ByteArray) (w : World) (hs : s.size <= 1048576) :
  Calls Tryz.prog 96 #[.string s] w fun e w' => e = .returned (.int .i64 (indL s.data.toList : Nat)) /\ w = w' := by
 have hl := trimL_len s.data.toList 32;have hz : (bs (trimLeftB s.data.toList 32)).size = (trimLeftB s.data.toList 32).length := size_mk _;have hk : ((indL s.data.toList : Nat) : Int) = (s.size : Int) - ((bs (trimLeftB s.data.toList 32)).size : Int) := by unfold indL; rw [hz, list_size] at *; omega
 rw [list_size] at hl;obtain ⟨t, ht⟩ : ∃ t, t = bs (trimLeftB s.data.toList 32) := ⟨_, rfl⟩
 have K := hid (c_TrimLeft s w);rw [<- ht] at K hz hk;rw [hk];have htz : t.size <= 1048576 := by omega
 clear ht hk hl hz;go_enter Tryz.func96, Tryz.ntmps96
 go_wp2_with fail
 refine K.out.mono ?_;rintro e w1 ⟨rfl, rfl⟩;go_wp2_with fail
 go_ret
 exact ⟨rfl, rfl⟩
def firstA (s : ByteArray) (i : Nat) : Bool := decide (i = 0) || decide (byteI s (i - 1) = 32)
structure BareAt (s : ByteArray) (T i e : Nat) (q : Bool) : Prop where
 run : (e = s.size /\ ((i <= s.size /\ ∃ f, (q = false -> f = firstA s i) /\ i + scanB f q (s.data.toList.drop i) = T) ∨ (i = s.size + 1 /\ T = s.size))) ∨ (e = T /\ i = T + 1 /\ T < s.size)
theorem drop_byte {s : ByteArray} {i : Nat} (h : i < s.size) : s.data.toList.drop i = s.get! i :: s.data.toList.drop (i + 1) := by
 have h2 : i < s.data.toList.length := by rw [list_size]; exact h
 rw [List.drop_eq_getElem_cons h2];congr 1
 have := byte_list h;rw [List.getElem?_eq_getElem h2] at this;exact Option.some.inj this
theorem drop_none {s : ByteArray} {i : Nat} (h : s.size <= i) : s.data.toList.drop i = [] := List.drop_eq_nil_of_le (by rw [list_size]; exact h)
theorem byte_is {s : ByteArray} {i : Nat} {c : UInt8} : (s.get! i == c) = decide (byteI s i = (c.toNat : Int)) := by
 rw [Bool.eq_iff_iff];simp only [beq_iff_eq, decide_eq_true_eq];unfold byteI;constructor
 ·intro h; rw [h]
 ·intro h; exact UInt8.toNat_inj.1 (by omega)
theorem BareAt.start (s : ByteArray) : BareAt s (scanB true false s.data.toList) 0 s.size false :=
 ⟨.inl ⟨rfl, .inl ⟨Nat.zero_le _, true, fun _ => rfl, by rw [List.drop_zero, Nat.zero_add]⟩⟩⟩
theorem BareAt.at' {s : ByteArray} {T i e : Nat} {q : Bool} (h : BareAt s T i e q) (hi : i < e) : e = s.size /\ i < s.size /\ ∃ f, (q = false -> f = firstA s i) /\ i + scanB f q (s.get! i :: s.data.toList.drop (i + 1)) = T := by
 rcases h.run with ⟨rfl, ⟨h1, f, h2, h3⟩ | ⟨h1, -⟩⟩ | ⟨h1, h2, -⟩
 ·exact ⟨rfl, hi, f, h2, by rw [<- drop_byte hi]; exact h3⟩
 ·omega
 ·omega
theorem BareAt.done {s : ByteArray} {T i e : Nat} {q : Bool} (h : BareAt s T i e q) (hi : ¬ i < e) : e = T /\ T <= s.size := by
 rcases h.run with ⟨rfl, ⟨h1, f, -, h3⟩ | ⟨-, h2⟩⟩ | ⟨h1, -, h3⟩
 ·rw [drop_none (by omega)] at h3
  have : scanB f q [] = 0 := by unfold scanB; rfl
  rw [this] at h3;omega
 ·exact ⟨h2.symm, by omega⟩
 ·exact ⟨h1, by omega⟩
theorem firstA_next (s : ByteArray) (i : Nat) : firstA s (i + 1) = decide (byteI s i = 32) := by
 unfold firstA;simp
theorem BareAt.esc {s : ByteArray} {T i e : Nat} (h : BareAt s T i e true) (hi : i < e) (hb : byteI s i = 92) : BareAt s T (i + 2) e true := by
 obtain ⟨rfl, hlt, f, -, h3⟩ := h.at' hi;refine ⟨.inl ⟨rfl, ?_⟩⟩;rcases Nat.lt_or_ge (i + 1) s.size with hl | hl
 ·rw [drop_byte hl] at h3
  have e1 : s.get! i = 92 := by have := @byte_is s i 92; rw [hb] at this; exact beq_iff_eq.1 (by rw [this]; rfl)
  rw [e1] at h3;unfold scanB at h3;simp only [if_true] at h3;exact .inl ⟨hl, false, (fun h => by cases h), by show i + 2 + scanB false true (s.data.toList.drop (i + 1 + 1)) = T; omega⟩
 ·rw [drop_none hl] at h3
  have e1 : scanB f true [s.get! i] = 1 := by unfold scanB; rfl
  rw [e1] at h3;exact .inr ⟨by omega, by omega⟩
theorem BareAt.in' {s : ByteArray} {T i e : Nat} (h : BareAt s T i e true) (hi : i < e) (hb : byteI s i ≠ 92) {q : Bool} (hq : q = !decide (byteI s i = 34)) : BareAt s T (i + 1) e q := by
 obtain ⟨rfl, hlt, f, -, h3⟩ := h.at' hi;refine ⟨.inl ⟨rfl, .inl ⟨hlt, ?_⟩⟩⟩;rcases Nat.lt_or_ge (i + 1) s.size with hl | hl
 ·rw [drop_byte hl] at h3
  have e1 : ¬ s.get! i = 92 := fun e => hb (by unfold byteI; rw [e]; rfl)
  have e2 : (s.get! i != 34) = q := by rw [hq]; unfold bne; rw [byte_is]; rfl
  unfold scanB at h3;rw [if_neg e1, e2, <- drop_byte hl] at h3;refine ⟨false, fun hf => ?_, by omega⟩;rw [firstA_next];rw [hf] at hq;have : byteI s i = 34 := by simpa using hq.symm
  rw [this];rfl
 ·have e1 : scanB f true (s.get! i :: s.data.toList.drop (i + 1)) = 1 := by rw [drop_none hl]; unfold scanB; rfl
  rw [e1] at h3;have e2 : ∀ f, scanB f q (s.data.toList.drop (i + 1)) = 0 := fun f => by rw [drop_none hl]; unfold scanB; rfl
  exact ⟨firstA s (i + 1), fun _ => rfl, by rw [e2]; omega⟩
theorem scan_out (f : Bool) (c : UInt8) (r : List UInt8) : scanB f false (c :: r) = if f && c == 34 then 1 + scanB false true r else if f && c == 35 then 0 else 1 + scanB (c == 32) false r := by
 cases r with
 | nil => unfold scanB; rfl
 | cons d t => rw [scanB] <;> (intros; simp_all)
theorem BareAt.open' {s : ByteArray} {T i e : Nat} (h : BareAt s T i e false) (hi : i < e) (hf : firstA s i = true) (hb : byteI s i = 34) : BareAt s T (i + 1) e true := by
 obtain ⟨rfl, hlt, f, h2, h3⟩ := h.at' hi;rw [h2 rfl, hf, scan_out, byte_is, byte_is] at h3;rw [if_pos (by rw [hb]; rfl)] at h3;exact ⟨.inl ⟨rfl, .inl ⟨hlt, false, (fun h => by cases h), by omega⟩⟩⟩
theorem BareAt.rem {s : ByteArray} {T i e : Nat} (h : BareAt s T i e false) (hi : i < e) (hf : firstA s i = true) (hb : byteI s i = 35) : BareAt s T (i + 1) i false /\ i = T /\ T <= s.size := by
 obtain ⟨rfl, hlt, f, h2, h3⟩ := h.at' hi;rw [h2 rfl, hf, scan_out, byte_is, byte_is] at h3;rw [if_neg (by rw [hb]; decide), if_pos (by rw [hb]; rfl)] at h3;exact ⟨⟨.inr ⟨h3, by omega, by omega⟩⟩, h3, by omega⟩
theorem BareAt.go {s : ByteArray} {T i e : Nat} (h : BareAt s T i e false) (hi : i < e) (hf : firstA s i = true -> ¬ byteI s i = 34 /\ ¬ byteI s i = 35) : BareAt s T (i + 1) e false := by
 obtain ⟨rfl, hlt, f, h2, h3⟩ := h.at' hi;rw [h2 rfl, scan_out, byte_is, byte_is, byte_is] at h3
 have n1 : ¬ (firstA s i && decide (byteI s i = ((34 : UInt8).toNat : Int))) = true := by
  intro e;simp only [Bool.and_eq_true, decide_eq_true_eq] at e;exact (hf e.1).1 e.2
 have n2 : ¬ (firstA s i && decide (byteI s i = ((35 : UInt8).toNat : Int))) = true := by
  intro e;simp only [Bool.and_eq_true, decide_eq_true_eq] at e;exact (hf e.1).2 e.2
 rw [if_neg n1, if_neg n2] at h3;exact ⟨.inl ⟨rfl, .inl ⟨hlt, firstA s (i + 1), fun _ => rfl, by rw [firstA_next]; exact (by have e : ((32 : UInt8).toNat : Int) = 32 := rfl; rw [e] at h3; omega)⟩⟩⟩
theorem bless_tri : ∀ a b : List UInt8, Op.bytesLess a b = false -> Op.bytesLess b a = false -> a = b
 | [], [], _, _ => rfl
 | [], _ :: _, h, _ => by simp [Op.bytesLess] at h
 | _ :: _, [], _, h => by simp [Op.bytesLess] at h
 | x :: a, y :: b, h1, h2 => by
  simp only [Op.bytesLess, Bool.or_eq_false_iff, Bool.and_eq_false_iff, decide_eq_false_iff_not, beq_eq_false_iff_ne] at h1 h2;have hxy : x = y := UInt8.le_antisymm (UInt8.not_lt.1 h2.1) (UInt8.not_lt.1 h1.1);subst hxy;rw [bless_tri a b (h1.2.resolve_left (by simp)) (h2.2.resolve_left (by simp))]
theorem bless_trans2 : ∀ a b c : List UInt8, Op.bytesLess a b = true -> Op.bytesLess b c = true -> Op.bytesLess a c = true
 | _, _, [], _, h => by cases ‹List UInt8› <;> simp [Op.bytesLess] at h
 | [], _, _ :: _, _, _ => by simp [Op.bytesLess]
 | _ :: _, [], _ :: _, h, _ => by simp [Op.bytesLess] at h
 | x :: a, y :: b, z :: c, h1, h2 => by
  simp only [Op.bytesLess, Bool.or_eq_true, Bool.and_eq_true, decide_eq_true_eq, beq_iff_eq] at h1 h2 ⊢;rcases h1 with h1 | ⟨rfl, h1⟩
  ·rcases h2 with h2 | ⟨rfl, h2⟩
   ·exact .inl (UInt8.lt_trans h1 h2)
   ·exact .inl h1
  ·rcases h2 with h2 | ⟨rfl, h2⟩
   ·exact .inl h2
   ·exact .inr ⟨rfl, bless_trans2 a b c h1 h2⟩
theorem bless_self : ∀ a : List UInt8, Op.bytesLess a a = false
 | [] => rfl
 | x :: a => by unfold Op.bytesLess; simp [UInt8.lt_irrefl, bless_self a]
theorem toList_inj {a b : ByteArray} (h : a.toList = b.toList) : a = b := by
 rw [ByteArray.toList_eq, ByteArray.toList_eq] at h;cases a; cases b
 simp at h;rw [h]
def laysAtoi_ren : Go.Shelf.Ren := ⟨fun | 172 => 204 | 244 => 246 | 245 => 247 | 247 => 268 | 279 => 269 | 280 => 270 | 281 => 271 | 282 => 272 | 287 => 284 | 316 => 285 | 171 => 128 | 205 => 286 | 321 => 296 | 322 => 297 | 243 => 206 | 246 => 248 | 283 => 273 | 284 => 274 | 285 => 275 | 286 => 276 | 129 => 288 | 317 => 287 | 318 => 289 | 319 => 290 | 320 => 291 | 337 => 298 | 338 => 299 | n => n, fun | 9 => 9 | 3 => 3 | 75 => 141 | 76 => 142 | 4 => 4 | 5 => 5 | 167 => 206 | 37 => 28 | 0 => 0 | 85 => 207 | 2 => 2 | 168 => 209 | 53 => 213 | 175 => 227 | 46 => 179 | 210 => 230 | 127 => 175 | 145 => 242 | 143 => 240 | 21 => 21 | 171 => 212 | 173 => 216 | 212 => 233 | 51 => 202 | 20 => 20 | 213 => 234 | 232 => 247 | 233 => 248 | 80 => 144 | n => n, fun | 15 => 3 | 16 => 4 | 17 => 5 | 18 => 6 | 19 => 7 | n => n⟩
theorem laysAtoi : Go.Proofs.LaysC.n172 Tryz.prog laysAtoi_ren := {
 mixed := by kernel_rfl
 f129 := Tryz.func288.trans (congrArg some (by kernel_rfl))
 f171 := Tryz.func128.trans (congrArg some (by kernel_rfl))
 f172 := Tryz.func204.trans (congrArg some (by kernel_rfl))
 f205 := Tryz.func286.trans (congrArg some (by kernel_rfl))
 f243 := Tryz.func206.trans (congrArg some (by kernel_rfl))
 f244 := Tryz.func246.trans (congrArg some (by kernel_rfl))
 f245 := Tryz.func247.trans (congrArg some (by kernel_rfl))
 f246 := Tryz.func248.trans (congrArg some (by kernel_rfl))
 f247 := Tryz.func268.trans (congrArg some (by kernel_rfl))
 f279 := Tryz.func269.trans (congrArg some (by kernel_rfl))
 f280 := Tryz.func270.trans (congrArg some (by kernel_rfl))
 f281 := Tryz.func271.trans (congrArg some (by kernel_rfl))
 f282 := Tryz.func272.trans (congrArg some (by kernel_rfl))
 f283 := Tryz.func273.trans (congrArg some (by kernel_rfl))
 f284 := Tryz.func274.trans (congrArg some (by kernel_rfl))
 f285 := Tryz.func275.trans (congrArg some (by kernel_rfl))
 f286 := Tryz.func276.trans (congrArg some (by kernel_rfl))
 f287 := Tryz.func284.trans (congrArg some (by kernel_rfl))
 f316 := Tryz.func285.trans (congrArg some (by kernel_rfl))
 f317 := Tryz.func287.trans (congrArg some (by kernel_rfl))
 f318 := Tryz.func289.trans (congrArg some (by kernel_rfl))
 f319 := Tryz.func290.trans (congrArg some (by kernel_rfl))
 f320 := Tryz.func291.trans (congrArg some (by kernel_rfl))
 f321 := Tryz.func296.trans (congrArg some (by kernel_rfl))
 f322 := Tryz.func297.trans (congrArg some (by kernel_rfl))
 f337 := Tryz.func298.trans (congrArg some (by kernel_rfl))
 f338 := Tryz.func299.trans (congrArg some (by kernel_rfl))
 t0 := Tryz.underlying0
 a0 := Tryz.isAgg0
 z0 := Tryz.sizeOf0
 v0 := Tryz.zeroValue0
 t2 := Tryz.underlying2
 a2 := Tryz.isAgg2
 z2 := Tryz.sizeOf2
 v2 := Tryz.zeroValue2
 t3 := Tryz.underlying3
 a3 := Tryz.isAgg3
 z3 := Tryz.sizeOf3
 v3 := Tryz.zeroValue3
 t4 := Tryz.underlying4
 a4 := Tryz.isAgg4
 z4 := Tryz.sizeOf4
 v4 := Tryz.zeroValue4
 t5 := Tryz.underlying5
 a5 := Tryz.isAgg5
 z5 := Tryz.sizeOf5
 v5 := Tryz.zeroValue5
 t9 := Tryz.underlying9
 a9 := Tryz.isAgg9
 z9 := Tryz.sizeOf9
 v9 := Tryz.zeroValue9
 t20 := Tryz.underlying20
 a20 := Tryz.isAgg20
 z20 := Tryz.sizeOf20
 v20 := Tryz.zeroValue20
 t21 := Tryz.underlying21
 a21 := Tryz.isAgg21
 z21 := Tryz.sizeOf21
 v21 := Tryz.zeroValue21
 t37 := Tryz.underlying28
 a37 := Tryz.isAgg28
 z37 := Tryz.sizeOf28
 v37 := Tryz.zeroValue28
 t46 := Tryz.underlying179
 a46 := Tryz.isAgg179
 z46 := Tryz.sizeOf179
 v46 := Tryz.zeroValue179
 t51 := Tryz.underlying202
 a51 := Tryz.isAgg202
 z51 := Tryz.sizeOf202
 v51 := Tryz.zeroValue202
 t53 := Tryz.underlying213
 a53 := Tryz.isAgg213
 z53 := Tryz.sizeOf213
 v53 := Tryz.zeroValue213
 t75 := Tryz.underlying141
 a75 := Tryz.isAgg141
 z75 := Tryz.sizeOf141
 v75 := Tryz.zeroValue141
 t76 := Tryz.underlying142
 a76 := Tryz.isAgg142
 z76 := Tryz.sizeOf142
 v76 := Tryz.zeroValue142
 t85 := Tryz.underlying207
 a85 := Tryz.isAgg207
 z85 := Tryz.sizeOf207
 v85 := Tryz.zeroValue207
 t127 := Tryz.underlying175
 a127 := Tryz.isAgg175
 z127 := Tryz.sizeOf175
 v127 := Tryz.zeroValue175
 t143 := Tryz.underlying240
 a143 := Tryz.isAgg240
 z143 := Tryz.sizeOf240
 v143 := Tryz.zeroValue240
 t145 := Tryz.underlying242
 a145 := Tryz.isAgg242
 z145 := Tryz.sizeOf242
 v145 := Tryz.zeroValue242
 t167 := Tryz.underlying206
 a167 := Tryz.isAgg206
 z167 := Tryz.sizeOf206
 v167 := Tryz.zeroValue206
 t168 := Tryz.underlying209
 a168 := Tryz.isAgg209
 z168 := Tryz.sizeOf209
 v168 := Tryz.zeroValue209
 t171 := Tryz.underlying212
 a171 := Tryz.isAgg212
 z171 := Tryz.sizeOf212
 v171 := Tryz.zeroValue212
 t173 := Tryz.underlying216
 a173 := Tryz.isAgg216
 z173 := Tryz.sizeOf216
 v173 := Tryz.zeroValue216
 t175 := Tryz.underlying227
 a175 := Tryz.isAgg227
 z175 := Tryz.sizeOf227
 v175 := Tryz.zeroValue227
 t210 := Tryz.underlying230
 a210 := Tryz.isAgg230
 z210 := Tryz.sizeOf230
 v210 := Tryz.zeroValue230
 t212 := Tryz.underlying233
 a212 := Tryz.isAgg233
 z212 := Tryz.sizeOf233
 v212 := Tryz.zeroValue233
 t213 := Tryz.underlying234
 a213 := Tryz.isAgg234
 z213 := Tryz.sizeOf234
 t232 := Tryz.underlying247
 a232 := Tryz.isAgg247
 z232 := Tryz.sizeOf247
 v232 := Tryz.zeroValue247
 t233 := Tryz.underlying248
 a233 := Tryz.isAgg248
 z233 := Tryz.sizeOf248
 v233 := Tryz.zeroValue248
 g15 := by kernel_rfl
 g16 := by kernel_rfl
 g17 := by kernel_rfl
 g18 := by kernel_rfl
 g19 := by kernel_rfl
 t80 := Tryz.underlying144
 a80 := Tryz.isAgg144
 z80 := Tryz.sizeOf144
 v80 := Tryz.zeroValue144
 i0 := by kernel_rfl
 i2 := by kernel_rfl
 i3 := by kernel_rfl
 i4 := by kernel_rfl
 i5 := by kernel_rfl
 i9 := by kernel_rfl
 i20 := by kernel_rfl
 i21 := by kernel_rfl
 i37 := by kernel_rfl
 i46 := by kernel_rfl
 i51 := by kernel_rfl
 i53 := by kernel_rfl
 i75 := by kernel_rfl
 i76 := by kernel_rfl
 i80 := by kernel_rfl
 i85 := by kernel_rfl
 i127 := by kernel_rfl
 i143 := by kernel_rfl
 i145 := by kernel_rfl
 i167 := by kernel_rfl
 i168 := by kernel_rfl
 i171 := by kernel_rfl
 i173 := by kernel_rfl
 i175 := by kernel_rfl
 i210 := by kernel_rfl
 i212 := by kernel_rfl
 i232 := by kernel_rfl
 i233 := by kernel_rfl
 m15 := by kernel_rfl
 m16 := by kernel_rfl
 m17 := by kernel_rfl
 m18 := by kernel_rfl
 m19 := by kernel_rfl
 c0 := by kernel_rfl
 c2 := by kernel_rfl
 c3 := by kernel_rfl
 c4 := by kernel_rfl
 c5 := by kernel_rfl
 c9 := by kernel_rfl
 c20 := by kernel_rfl
 c21 := by kernel_rfl
 c37 := by kernel_rfl
 c46 := by kernel_rfl
 c51 := by kernel_rfl
 c53 := by kernel_rfl
 c75 := by kernel_rfl
 c76 := by kernel_rfl
 c80 := by kernel_rfl
 c85 := by kernel_rfl
 c127 := by kernel_rfl
 c143 := by kernel_rfl
 c145 := by kernel_rfl
 c167 := by kernel_rfl
 c168 := by kernel_rfl
 c171 := by kernel_rfl
 c173 := by kernel_rfl
 c175 := by kernel_rfl
 c210 := by kernel_rfl
 c212 := by kernel_rfl
 c213 := by kernel_rfl
 c232 := by kernel_rfl
 c233 := by kernel_rfl }
def ErrR (w : World) : Prop := ∃ ev, w.cell? ⟨laysAtoi_ren.g 16, 0, none⟩ = some ev /\ (ev = .nilIface ∨ ∃ te pe, ev = .iface te pe)
theorem ErrR.below {w w' : World} (h : ErrR w) (hb : Below w.heap.size w w') : ErrR w' := by
 obtain ⟨ev, h1, h2⟩ := h;exact ⟨ev, (hb.cell (p := ⟨laysAtoi_ren.g 16, 0, none⟩) (Lib.lt_of_cell h1)).trans h1, h2⟩
theorem c_Atoi_ok (s : ByteArray) (v : Int) (w : World) (hs : s.size <= 1048576) (h : Lib.atoiAll s.data.toList = .ok v) :
  Calls Tryz.prog 204 #[.string s] w fun e w' => e = .returned (.tuple #[.int .i64 v, .nilIface]) /\ Below w.heap.size w w' := by
 have h1 := Any.strconv_Atoi_ok laysAtoi s (by omega) v h w;change Calls Tryz.prog 204 _ _ _ at h1
 refine h1.mono ?_;rintro e w' ⟨rfl, hw⟩;refine ⟨rfl, ?_⟩;rcases hw with rfl | ⟨t, rfl⟩
 ·exact Below.refl _ _
 ·exact Lib.bytesWorld_below _ _ _
theorem c_Atoi_range (s : ByteArray) (w : World) (hs : s.size <= 1048576) (h : Lib.atoiAll s.data.toList = .range) (hE : ErrR w) :
  Calls Tryz.prog 204 #[.string s] w fun e w' => ∃ x N, e = .returned (.tuple #[.int .i64 x, .iface 209 (.pointer (some ⟨N, 0, none⟩))]) /\ Below w.heap.size w w' := by
 obtain ⟨ev, h2, h3⟩ := hE;have h1 := Any.strconv_Atoi_range laysAtoi s (by omega) h ev w h2 h3;change Calls Tryz.prog 204 _ _ _ at h1
 refine h1.mono ?_;rintro e w' ⟨N, rfl, -, -, hb⟩;exact ⟨_, N, rfl, hb⟩
theorem digit_fig (x : Int) : digitB x = figI x := by
 unfold digitB figI;rw [Bool.eq_iff_iff];simp
end Go.Proofs.YtohcpifekcehjaaGreatDoor
