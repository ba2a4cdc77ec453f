/- Steps to FnIndentedNormal. No conditions. -/
import Derived.Test.YtohcpifekcehjaaGreatDoorKfni5
import Derived.Test.YtohcpifekcehjaaGreatDoorKfni1
import Derived.Deep.CutRange
import Derived.Deep.RegionHeld3
import Derived.Test.YtohcpifekcehjaaGreatDoorKfni8
import Derived.Test.YtohcpifekcehjaaGreatDoorKfni6
import Derived.Test.YtohcpifekcehjaaGreatDoorKfni7
import Derived.Deep.RegionLaw
import Derived.Deep.CutBlock
import Derived.Test.YtohcpifekcehjaaGreatDoorKfni9
import Derived.Test.YtohcpifekcehjaaGreatDoorKfni2
set_option maxHeartbeats 16000000
set_option maxRecDepth 20000
namespace Go.Proofs.YtohcpifekcehjaaGreatDoor
open Go.RowKit
def Ze : Nat -> TreeD -> TreeD -> Bool
 | 0, _, _ => false
 | n + 1, a, b => (a.kind == b.kind) && (a.flag == b.flag) && (a.num == b.num) && (a.text.toList == b.text.toList) && eqL U8 a.keys b.keys && eqL (Ze n) a.kids b.kids
theorem ZO (n : Nat) (a b : TreeD) : Ze (n + 1) a b = ((a.kind == b.kind) && (a.flag == b.flag) && (a.num == b.num) && (a.text.toList == b.text.toList) && eqL U8 a.keys b.keys && eqL (Ze n) a.kids b.kids) := rfl
def Jd5 (n : Nat) : Prop := ∀ (a b : TreeD) (ca cb : List Value) (w : World) (lo lo' : Nat), C_Tree n lo w.heap.size w a ca -> C_Tree n lo' w.heap.size w b cb ->
  Calls Tryz.prog 20 #[.agg ca.toArray, .agg cb.toArray] w fun e w' => e = .returned (.bool (Ze n a b)) /\ Below w.heap.size w w'
theorem Wy {α : Type} [BEq α] {x y : α} {q : Bool} (h : (x == y) = q) : (x != y) = !q := by unfold bne; rw [h]
theorem Jjs (n : Nat) (ih : Jd5 n) : Jd5 (n + 1) := by
 intro a b ca cb w lo lo' h h';obtain ⟨v4, v5, rfl, a0, a2, a3, a4, a5⟩ := C_Tree.out h;obtain ⟨zv4, zv5, rfl, za0, za2, za3, za4, za5⟩ := C_Tree.out h';obtain ⟨A4, c4, rfl, hlc, hcc, hA⟩ := a4;obtain ⟨A5, c5, rfl, hlc5, hcc5, hA5⟩ := a5;obtain ⟨zA4, zc4, rfl, zlc, zcc, hB⟩ := za4;obtain ⟨zA5, zc5, rfl, zlc5, zcc5, hB5⟩ := za5;have Hf := Lib.hid (ZO n a b);clear h h';rcases q1 : (a.kind == b.kind) with _ | _
 ·rw [q1] at Hf; simp only [Bool.false_and] at Hf
  have n1 := Wy q1;simp only [Bool.not_false] at n1;go_enter Tryz.func20, Tryz.ntmps20
  go_wp2_with fail
  go_ret
  exact ⟨JB Hf.out.symm, Jj⟩
 have n1 := Wy q1;simp only [Bool.not_true] at n1;rcases q2 : (a.flag == b.flag) with _ | _
 ·rw [q1, q2] at Hf; simp only [Bool.false_and, Bool.and_false] at Hf
  have n2 := Wy q2;simp only [Bool.not_false] at n2;go_enter Tryz.func20, Tryz.ntmps20
  go_wp2_with fail
  go_ret
  exact ⟨JB Hf.out.symm, Jj⟩
 have n2 := Wy q2;simp only [Bool.not_true] at n2;rcases q3 : (a.num == b.num) with _ | _
 ·rw [q1, q2, q3] at Hf; simp only [Bool.false_and, Bool.and_false] at Hf
  have n3 := Wy q3;simp only [Bool.not_false] at n3;go_enter Tryz.func20, Tryz.ntmps20
  go_wp2_with fail
  go_ret
  exact ⟨JB Hf.out.symm, Jj⟩
 have n3 := Wy q3;simp only [Bool.not_true] at n3;rcases q4 : (a.text.toList == b.text.toList) with _ | _
 ·rw [q1, q2, q3, q4] at Hf; simp only [Bool.false_and, Bool.and_false] at Hf
  have n4 := Wy q4;simp only [Bool.not_false] at n4;go_enter Tryz.func20, Tryz.ntmps20
  go_wp2_with fail
  go_ret
  exact ⟨JB Hf.out.symm, Jj⟩
 have n4 := Wy q4;simp only [Bool.not_true] at n4;by_cases hk : a.keys.length = b.keys.length
 rotate_left
 ·have Hx := Lib.hid (Jhd U8 a.keys b.keys hk)
  have lk : ((a.keys.length : Int) != b.keys.length) = true := bne_iff_ne.2 (by omega);have He := Lib.hid (show Ze (n + 1) a b = false by rw [ZO, Hx.out]; simp only [Bool.and_false, Bool.false_and]);clear Hf hk;go_enter Tryz.func20, Tryz.ntmps20
  go_wp2_with fail
  go_ret
  exact ⟨JB He.out.symm, Jj⟩
 have lk : ((a.keys.length : Int) != b.keys.length) = false := bne_eq_false_iff_eq.2 (by omega);have Lk := Lib.hid hk;clear hk;by_cases hd : a.kids.length = b.kids.length
 rotate_left
 ·have Hx := Lib.hid (Jhd (Ze n) a.kids b.kids hd)
  have ld : ((a.kids.length : Int) != b.kids.length) = true := bne_iff_ne.2 (by omega);have He := Lib.hid (show Ze (n + 1) a b = false by rw [ZO, Hx.out]; simp only [Bool.and_false]);clear Hf hd;go_enter Tryz.func20, Tryz.ntmps20
  go_wp2_with fail
  go_ret
  exact ⟨JB He.out.symm, Jj⟩
 have ld : ((a.kids.length : Int) != b.kids.length) = false := bne_eq_false_iff_eq.2 (by omega);have Ld := Lib.hid hd;clear hd;rw [q1, q2, q3, q4] at Hf;simp only [Bool.true_and] at Hf;go_enter Tryz.func20, Tryz.ntmps20
 go_wp2_with fail
 go_loopw [5] (fun v wr => ∃ k : Nat, k <= a.keys.length /\ v = .int .i64 k /\ QG k (Jby U8 a.keys b.keys) = true /\ wr.heap[w.heap.size]? = some (.cells #[.int .i64 a.kind, .bool a.flag, .int .i64 a.num, .string a.text, .slice A4 a.keys.length c4, .slice A5 a.kids.length c5] 34 (0, 0)) /\ wr.heap[w.heap.size + 1]? = some (.cells #[.int .i64 b.kind, .bool b.flag, .int .i64 b.num, .string b.text, .slice zA4 b.keys.length zc4, .slice zA5 b.kids.length zc5] 34 (0, 0)) /\ Below w.heap.size w wr) (fun v _ => a.keys.length - (intOf v).toNat)
 case atStart => exact ⟨0, Nat.zero_le _, rfl, rfl, (Below.heap_alloc _ _ _ (by simp)).trans (Je rfl), Je (by simp), Jj⟩
 case round =>
  obtain ⟨k, hk, rfl, hall, hT, hK, hbr⟩ := hrel;have Hall := Lib.hid hall;have HT := Lib.hid hT;have HK := Lib.hid hK;clear hall hT hK;obtain ⟨x0, x1, x2, x3, x4, x5, xf⟩ := Jf HT.out;obtain ⟨y0, y1, y2, y3, y4, y5, yf⟩ := Jf HK.out;have hl1 := Ja HT.out;have hl2 := Ja HK.out;by_cases hlt : k < a.keys.length
  ·obtain ⟨p, o, rfl, -, hbl, hcell⟩ := hA (by omega)
   obtain ⟨p', o', rfl, -, hbl', hcell'⟩ := hB (by have := Lk.out; omega);obtain ⟨d, hd⟩ := Jg hlt;obtain ⟨d', hd'⟩ := Jg (show k < b.keys.length by have := Lk.out; omega);obtain ⟨es, -, hcs, rfl, hz1⟩ := hcell k d hd;obtain ⟨es', -, hcs', rfl, hz2⟩ := hcell' k d' hd';have hc0 := (hbr.cell (p := ⟨p, o + k * 1 + 0, none⟩) hbl).trans (hcs 0 (by omega));have hd0 := (hbr.cell (p := ⟨p', o' + k * 1 + 0, none⟩) hbl').trans (hcs' 0 (by omega))
   simp at hc0 hd0;have hbr1 := Nat.lt_of_lt_of_le hbl hbr.size;have hbr2 := Nat.lt_of_lt_of_le hbl' hbr.size;have hbs := hbr.size;have hk0 : (0 : Int) <= k := by omega
   have hk1 : (k : Int) < a.keys.length := by omega
   have hk2 : (k : Int) < b.keys.length := by have := Lk.out; omega
   have He := Lib.hid (JdX U8 a.keys b.keys k d d' hd hd');clear hcs hcell hA hcs' hcell' hB hd hd' hA5 hB5;rcases q0 : (d.toList == d'.toList) with _ | _
   ·have Hbad := Lib.hid (show Jby U8 a.keys b.keys k = false by rw [He.out]; exact q0)
    have m1 := Wy q0;simp only [Bool.not_false] at m1;go_wp2_with fail
    refine Jm 11 (by kernel_rfl) (by kernel_rfl) (by decide) ?_;refine ds ?_;refine ds ?_
    iterate 2 refine ds ?_
    refine ds ?_;refine ds ?_;refine ds ?_
    iterate 2 refine ds ?_
    refine ds ?_;refine ds ?_;intro w1 hb
    (first | (have hcu2 := Cum.join hcu hb; (try clear hcu); (try clear hc); (try clear hfz); (try clear hsz); (try clear hs0); (try clear hs1); (try clear hs2); (try clear hs3); (try clear hs4); ) | have hcu2 := Cum.mk hb); have hcu := hcu2; clear hcu2; obtain ⟨hc, hfz⟩ := JE hcu.h; have hsz := hcu.h.size; (try simp at hsz); (try have hs0 := Jd hsz); (try (have hs1 := Jc hsz; (try (have hs2 := Jc hs1; (try (have hs3 := Jc hs2; (try have hs4 := Jc hs3)))))))
    (try simp only [Act.put, List.setIfInBounds_toArray, List.set_cons_zero, List.set_cons_succ])
    (try simp only [List.drop_succ_cons, List.drop_nil])
    have Hx := Lib.hid (show Ze (n + 1) a b = false by rw [Hf.out, Jhk U8 a.keys b.keys k hlt Hbad.out]; rfl);go_wp2_with fail
    go_ret
    exact ⟨JB Hx.out.symm, Jj⟩
   have Hn := Lib.hid (show QG (k + 1) (Jby U8 a.keys b.keys) = true by rw [Vc, Hall.out, He.out]; exact q0);have m1 := Wy q0;simp only [Bool.not_true] at m1;go_wp2_with fail
   refine Jm 11 (by kernel_rfl) (by kernel_rfl) (by decide) ?_;refine ds ?_;refine ds ?_
   iterate 2 refine ds ?_
   refine ds ?_;refine ds ?_;refine ds ?_
   iterate 2 refine ds ?_
   refine ds ?_;refine ds ?_;intro wq hbwq
   (try simp only [Act.put, List.setIfInBounds_toArray, List.set_cons_zero, List.set_cons_succ])
   (try simp only [List.drop_succ_cons, List.drop_nil])
   have HTq := Lib.hid ((hbwq.block _ hl1).trans HT.out);have HKq := Lib.hid ((hbwq.block _ hl2).trans HK.out);have HBq := Lib.hid (hbr.trans (hbwq.mono hbr.size));clear x0 x1 x2 x3 x4 x5 xf y0 y1 y2 y3 y4 y5 yf;go_wp2_with fail
   go_roundw
   case rel => exact ⟨k + 1, by omega, by go_num, Hn.out, HTq.out, HKq.out, HBq.out⟩
   case measure => simp [intOf]; omega
  obtain rfl : k = a.keys.length := by omega
  have HKs := Lib.hid (Jd2 U8 a.keys b.keys Lk.out Hall.out);have hke : decide (a.keys.length < a.keys.length) = false := JmF (Nat.lt_irrefl _);clear hA hB Hall;rw [HKs.out] at Hf;simp only [Bool.true_and] at Hf;go_wp2_with fail
  go_loopw [6] (fun v wr => ∃ k : Nat, k <= a.kids.length /\ v = .int .i64 k /\ QG k (Jby (Ze n) a.kids b.kids) = true /\ wr.heap[w.heap.size]? = some (.cells #[.int .i64 a.kind, .bool a.flag, .int .i64 a.num, .string a.text, .slice A4 a.keys.length c4, .slice A5 a.kids.length c5] 34 (0, 0)) /\ wr.heap[w.heap.size + 1]? = some (.cells #[.int .i64 b.kind, .bool b.flag, .int .i64 b.num, .string b.text, .slice zA4 b.keys.length zc4, .slice zA5 b.kids.length zc5] 34 (0, 0)) /\ Below w.heap.size w wr) (fun v _ => a.kids.length - (intOf v).toNat)
  case atStart => exact ⟨0, Nat.zero_le _, rfl, rfl, HT.out, HK.out, hbr⟩
  case round =>
   have hb0 := hbr;clear hbr hl1 hl2 HT HK x0 x1 x2 x3 x4 x5 xf y0 y1 y2 y3 y4 y5 yf;obtain ⟨k, hk, rfl, hall, hT, hK, hbr⟩ := hrel;have Hall := Lib.hid hall;have HT := Lib.hid hT;have HK := Lib.hid hK;clear hall hT hK hb0;obtain ⟨x0, x1, x2, x3, x4, x5, xf⟩ := Jf HT.out;obtain ⟨y0, y1, y2, y3, y4, y5, yf⟩ := Jf HK.out;have hl1 := Ja HT.out;have hl2 := Ja HK.out;by_cases hlt : k < a.kids.length
   ·obtain ⟨p, o, rfl, -, hbl, hcell⟩ := hA5 (by omega)
    obtain ⟨p', o', rfl, -, hbl', hcell'⟩ := hB5 (by have := Ld.out; omega);obtain ⟨d, hd⟩ := Jg hlt;obtain ⟨d', hd'⟩ := Jg (show k < b.kids.length by have := Ld.out; omega);obtain ⟨es, -, hcs, hC⟩ := hcell k d hd;obtain ⟨es', -, hcs', hD⟩ := hcell' k d' hd';obtain ⟨eA4, ec4, eA5, ec5, rfl, ea0, ea2, ea3⟩ := hC.flat;obtain ⟨fA4, fc4, fA5, fc5, rfl, fa0, fa2, fa3⟩ := hD.flat;have hc0 := (hbr.cell (p := ⟨p, o + k * 6 + 0, none⟩) (by simp; omega)).trans (hcs 0 (by omega))
    simp at hc0;have hc1 := (hbr.cell (p := ⟨p, o + k * 6 + 1, none⟩) (by simp; omega)).trans (hcs 1 (by omega));simp at hc1;have hc2 := (hbr.cell (p := ⟨p, o + k * 6 + 2, none⟩) (by simp; omega)).trans (hcs 2 (by omega));simp at hc2;have hc3 := (hbr.cell (p := ⟨p, o + k * 6 + 3, none⟩) (by simp; omega)).trans (hcs 3 (by omega));simp at hc3;have hc4 := (hbr.cell (p := ⟨p, o + k * 6 + 4, none⟩) (by simp; omega)).trans (hcs 4 (by omega))
    simp at hc4;have hc5 := (hbr.cell (p := ⟨p, o + k * 6 + 5, none⟩) (by simp; omega)).trans (hcs 5 (by omega));simp at hc5;have hd0 := (hbr.cell (p := ⟨p', o' + k * 6 + 0, none⟩) (by simp; omega)).trans (hcs' 0 (by omega));simp at hd0;have hd1 := (hbr.cell (p := ⟨p', o' + k * 6 + 1, none⟩) (by simp; omega)).trans (hcs' 1 (by omega));simp at hd1;have hd2 := (hbr.cell (p := ⟨p', o' + k * 6 + 2, none⟩) (by simp; omega)).trans (hcs' 2 (by omega))
    simp at hd2;have hd3 := (hbr.cell (p := ⟨p', o' + k * 6 + 3, none⟩) (by simp; omega)).trans (hcs' 3 (by omega));simp at hd3;have hd4 := (hbr.cell (p := ⟨p', o' + k * 6 + 4, none⟩) (by simp; omega)).trans (hcs' 4 (by omega));simp at hd4;have hd5 := (hbr.cell (p := ⟨p', o' + k * 6 + 5, none⟩) (by simp; omega)).trans (hcs' 5 (by omega));simp at hd5;have hbr1 := Nat.lt_of_lt_of_le hbl hbr.size
    have hbr2 := Nat.lt_of_lt_of_le hbl' hbr.size;have hbs := hbr.size;have hk0 : (0 : Int) <= k := by omega
    have hk1 : (k : Int) < a.kids.length := by omega
    have hk2 : (k : Int) < b.kids.length := by have := Ld.out; omega
    have He := Lib.hid (JdX (Ze n) a.kids b.kids k d d' hd hd');have HC := Lib.hid hC;have HD := Lib.hid hD;clear hcs hcell hA5 hcs' hcell' hB5 hd hd' hC hD;rcases q0 : Ze n d d' with _ | _
    ·have Hbad := Lib.hid (show Jby (Ze n) a.kids b.kids k = false by rw [He.out, q0])
     have Hx := Lib.hid (show Ze (n + 1) a b = false by rw [Hf.out]; exact Jhk (Ze n) a.kids b.kids k hlt Hbad.out);go_wp2_with fail
     go_region_held3 (fun w' => Below (wr).heap.size (wr) w' /\ (∀ xb xo, xb < (wr).heap.size -> w'.cell? ⟨xb, xo, none⟩ = (wr).cell? ⟨xb, xo, none⟩)) (first | exact Wd _ | exact XL (by assumption) (by assumption) | exact Qx (by assumption) | exact ZZ (by assumption) _) (first | (go_at_call 20; refine (ih d d' _ _ _ _ _ (HC.out.now (ZK hbr (by first | (with_reducible exact Below.refl _ _) | exact (Qx (by assumption)).1))) (HD.out.now (ZK hbr (by first | (with_reducible exact Below.refl _ _) | exact (Qx (by assumption)).1)))).mono ?_; rintro e w9 ⟨rfl, hb9⟩))
     (have hb := Wo (by assumption); (first | (have hcu2 := Cum.join hcu hb; (try clear hcu); (try clear hc); (try clear hfz); (try clear hsz); (try clear hs0); (try clear hs1); (try clear hs2); (try clear hs3); (try clear hs4); ) | have hcu2 := Cum.mk hb); have hcu := hcu2; clear hcu2; obtain ⟨hc, hfz⟩ := JE hcu.h; have hsz := hcu.h.size; (try simp at hsz); (try have hs0 := Jd hsz); (try (have hs1 := Jc hsz; (try (have hs2 := Jc hs1; (try (have hs3 := Jc hs2; (try have hs4 := Jc hs3))))))))
     go_wp2_with fail
     go_ret
     exact ⟨JB Hx.out.symm, Jj⟩
    have Hn := Lib.hid (show QG (k + 1) (Jby (Ze n) a.kids b.kids) = true by rw [Vc, Hall.out, He.out, q0]; rfl);go_upto_region 11 with fail
    go_cut [87] from 76 to 87 (fun s87 wx => s87 = .bool false /\ Below wr.heap.size wr wx)
    case first =>
     go_region_held3 (fun w' => Below (wr).heap.size (wr) w' /\ (∀ xb xo, xb < (wr).heap.size -> w'.cell? ⟨xb, xo, none⟩ = (wr).cell? ⟨xb, xo, none⟩)) (first | exact Wd _ | exact XL (by assumption) (by assumption) | exact Qx (by assumption) | exact ZZ (by assumption) _) (first | (go_at_call 20; refine (ih d d' _ _ _ _ _ (HC.out.now (ZK hbr (by first | (with_reducible exact Below.refl _ _) | exact (Qx (by assumption)).1))) (HD.out.now (ZK hbr (by first | (with_reducible exact Below.refl _ _) | exact (Qx (by assumption)).1)))).mono ?_; rintro e w9 ⟨rfl, hb9⟩))
     have hb := Wo (by assumption);go_wp2_with fail
     go_meet
     exact ⟨by simp, hb⟩
    case rest =>
     obtain ⟨rfl, hbq⟩ := hcut;have HTq := Lib.hid ((hbq.block _ hl1).trans HT.out);have HKq := Lib.hid ((hbq.block _ hl2).trans HK.out);have HBq := Lib.hid (hbr.trans (hbq.mono hbr.size));go_wp2_with fail
     go_roundw
     case rel => exact ⟨k + 1, by omega, by go_num, Hn.out, HTq.out, HKq.out, HBq.out⟩
     case measure => simp [intOf]; omega
   obtain rfl : k = a.kids.length := by omega
   have Hx := Lib.hid (show Ze (n + 1) a b = true by rw [Hf.out]; exact Jd2 (Ze n) a.kids b.kids Ld.out Hall.out);clear hA5 hB5;go_wp2_with fail
   go_ret
   exact ⟨JB Hx.out.symm, Jj⟩
theorem JcZ : ∀ n, Jd5 n
 | 0 => fun _ _ _ _ _ _ _ h _ => (C_Tree.none h).elim
 | n + 1 => Jjs n (JcZ n)
open Go.RowKit Go.Lib
theorem Xv {D : Type} {eq : D -> D -> Bool} {l : List D} (he : ∀ a ∈ l, eq a a = true) : eqL eq l l = true := by
 refine Jd2 eq l l rfl ?_;unfold QG;refine List.all_eq_true.2 (fun i hi => ?_);have g1 := List.mem_range.1 hi;rw [JdX eq l l i l[i] l[i] (List.getElem?_eq_getElem g1) (List.getElem?_eq_getElem g1)];exact he _ (List.getElem_mem g1)
theorem JcY : ∀ (n : Nat) (a : TreeD), Ju n a = true -> Ze n a a = true
 | 0, _, h => by cases h
 | n + 1, a, h => by
  rw [ZO, Xv (eq := U8) (fun x _ => beq_self_eq_true _), Xv (eq := Ze n) (fun x hx => by
   obtain ⟨i, hi⟩ := List.getElem?_of_mem hx
   exact JcY n x (J6 h hi))]
  simp
theorem MapG.pushK {nT base hi : Nat} {w w' : World} {ks : List ByteArray} {l : List TreeD} {vk vl : Value} {ess : List (List Value)} {F : Nat -> Nat -> Prop} {key : ByteArray} {g cap n : Nat} (h : MapG nT base hi w ks l vk vl ess F) (hhi : hi <= w.heap.size) (hn : ks.length = n) (hkey : key.size <= 9223372036854775807)
  (ho : w'.ownsRow base 9 1 (.slice (some ⟨g, 0, none⟩) (n + 1) cap) (n + 1) (ks.map Value.string ++ [.string key])) (hkeep : ∀ b, b < w.heap.size -> vk.ownBlock ≠ some b -> w'.heap[b]? = w.heap[b]?) (hs : w.heap.size <= w'.heap.size) (hat : vk.ownBlock = some g ∨ w.heap.size <= g) :
  MapG nT base w'.heap.size w' (ks ++ [key]) l (.slice (some ⟨g, 0, none⟩) (n + 1) cap) vl ess F := by
 subst hn;have hvv := VV h.keys h.kids (by decide)
 have hgb : ∀ b, b < hi -> vk.ownBlock ≠ some b -> (Value.slice (some ⟨g, 0, none⟩) (ks.length + 1) cap).ownBlock ≠ some b := fun b hb hne e => by
  simp [Value.ownBlock] at e;subst e;rcases hat with h1 | h1
  ·exact hne h1
  omega
 have hlk : ∀ q, vl.ownBlock = some q -> w'.heap[q]? = w.heap[q]? := fun q hq => hkeep q (Nat.lt_of_lt_of_le (h.hl q hq) hhi) (fun e => hvv q e hq)
 refine ⟨h.len, h.six, by simpa using ho, Jh h.kids hlk, fun q hq => (ho.lt q hq).2, fun q hq => Nat.lt_of_lt_of_le (h.hl q hq) (Nat.le_trans hhi hs), fun i b hF => ?_, h.apart, fun i d es hd he => (h.own i d es hd he).carry (fun b hF => hkeep b (Nat.lt_of_lt_of_le (h.part i b hF).2.1 hhi) (h.part i b hF).2.2.1) (fun _ h => h), fun s hs => ?_⟩
 ·obtain ⟨f1, f2, f3, f4⟩ := h.part i b hF
  exact ⟨f1, by omega, hgb b f2 f3, f4⟩
 rcases List.mem_append.1 hs with hs | hs
 ·exact h.size s hs
 simp at hs; subst hs; exact hkey
theorem MapG.pushL {nT base hi : Nat} {w w' : World} {ks : List ByteArray} {l : List TreeD} {vk vl : Value} {ess : List (List Value)} {F : Nat -> Nat -> Prop} {S : Nat -> Prop} {t : TreeD} {es : List Value} {g cap n : Nat} (h : MapG nT base hi w ks l vk vl ess F) (hhi : hi <= w.heap.size) (hbh : base <= hi) (hn : l.length = n) (ht : OwnT nT S w t es) (hS : ∀ b, S b -> hi <= b /\ b < w.heap.size)
  (ho : w'.ownsRow base 34 6 (.slice (some ⟨g, 0, none⟩) (n + 1) cap) (n + 1) (ess.flatten ++ es)) (hkeep : ∀ b, b < w.heap.size -> vl.ownBlock ≠ some b -> w'.heap[b]? = w.heap[b]?) (hs : w.heap.size <= w'.heap.size) (hat : vl.ownBlock = some g ∨ w.heap.size <= g) :
  MapG nT base w'.heap.size w' ks (l ++ [t]) vk (.slice (some ⟨g, 0, none⟩) (n + 1) cap) (ess ++ [es]) (fun i b => (i < l.length /\ F i b) ∨ (i = l.length /\ S b)) := by
 subst hn;have hvv := VV h.kids h.keys (by decide)
 have hgb : ∀ b, b < w.heap.size -> vl.ownBlock ≠ some b -> (Value.slice (some ⟨g, 0, none⟩) (l.length + 1) cap).ownBlock ≠ some b := fun b hb hne e => by
  simp [Value.ownBlock] at e;subst e;rcases hat with h1 | h1
  ·exact hne h1
  omega
 have hkk : ∀ q, vk.ownBlock = some q -> w'.heap[q]? = w.heap[q]? := fun q hq => hkeep q (Nat.lt_of_lt_of_le (h.hk q hq) hhi) (fun e => hvv q e hq)
 have hlen := h.len;refine ⟨by simp [hlen], ?_, Jh h.keys hkk, by simpa using ho, fun q hq => Nat.lt_of_lt_of_le (h.hk q hq) (Nat.le_trans hhi hs), fun q hq => (ho.lt q hq).2, ?_, ?_, ?_, h.size⟩
 ·intro x hx
  rcases List.mem_append.1 hx with hx | hx
  ·exact h.six x hx
  simp at hx; subst hx; exact ht.len
 ·rintro i b (⟨-, hF⟩ | ⟨-, hF⟩)
  ·obtain ⟨f1, f2, f3, f4⟩ := h.part i b hF
   exact ⟨f1, by omega, f3, hgb b (by omega) f4⟩
  obtain ⟨f1, f2⟩ := hS b hF;exact ⟨by omega, by omega, fun e => by have := h.hk b e; omega, hgb b f2 (fun e => by have := h.hl b e; omega)⟩
 ·rintro i j b (⟨hi, hF⟩ | ⟨hi, hF⟩) (⟨hj, hG⟩ | ⟨hj, hG⟩)
  ·exact h.apart i j b hF hG
  ·have := (h.part i b hF).2.1; have := (hS b hG).1; omega
  ·have := (h.part j b hG).2.1; have := (hS b hF).1; omega
  omega
 intro i d' es' hd' hes';by_cases hlt : i < l.length
 ·rw [List.getElem?_append_left hlt] at hd'
  rw [List.getElem?_append_left (by omega)] at hes';exact (h.own i d' es' hd' hes').carry (fun b hF => hkeep b (Nat.lt_of_lt_of_le (h.part i b hF).2.1 hhi) (h.part i b hF).2.2.2) (fun b hF => .inl ⟨hlt, hF⟩)
 have hil : i = l.length := by
  have := (List.getElem?_eq_some_iff.1 hd').1;simp at this;omega
 subst hil;rw [List.getElem?_append_right (by omega)] at hd';rw [List.getElem?_append_right (by omega)] at hes';simp at hd';simp [hlen] at hes';subst hd' hes';exact ht.carry (fun b hF => hkeep b (hS b hF).2 (fun e => by have := h.hl b e; have := (hS b hF).1; omega)) (fun b hF => .inr ⟨rfl, hF⟩)
theorem JeL (n : Nat) (l : List TreeD) (K : Option Addr) (c5 : Nat) (w : World) (lo : Nat) (h : C_Tree (n + 1) lo w.heap.size w (JY l) [.int .i64 5, .bool false, .int .i64 0, .string ⟨#[]⟩, .slice none 0 0, .slice K l.length c5]) (hn : QT (n + 1) (JY l) <= 1048576) :
  Calls Tryz.prog 148 #[.slice K l.length c5] w fun e w' => ∃ cs', e = .returned (.agg cs'.toArray) /\ OwnT (n + 1) (fun b => w.heap.size < b /\ b < w'.heap.size) w' (JY l) cs' /\ Below w.heap.size w w' := by
 go_enter Tryz.func148, Tryz.ntmps148
 go_wp2_with fail
 refine (Zs (n + 1) (JY l) _ _ lo (h.now Jj) hn).mono ?_;rintro e w1 ⟨cs1, rfl, hO, hb⟩;obtain ⟨A4, c4, A5, c6, rfl, -⟩ := hO.flat;have Z := (hb.block w.heap.size (by simp)).trans (Je (by simp));have hl := Ja Z;obtain ⟨x0, x1, x2, x3, x4, x5, xf⟩ := Jf Z;have HO := hid hO;have Bw : Below w.heap.size w w1 := Below.trans Jj (hb.mono (by simp));clear Z hO hb;go_wp2_with fail
 refine bodyPost_ret (v := .agg #[.int .i64 (JY l).kind, .bool (JY l).flag, .int .i64 (JY l).num, .string (JY l).text, .slice A4 (JY l).keys.length c4, .slice A5 (JY l).kids.length c6]) (by simp only [results, Tryz.results148]; go_simp) rfl ⟨_, rfl, HO.out.carry (fun b hb => Aside.block (S := fun b => b = w.heap.size) (w := w1) QC b hb.2 (by have := hb.1; simp at this; omega)) (fun b hb => by simp at hb ⊢; omega), Bw.trans (Aside.below (S := fun b => b = w.heap.size) QC Bw.size (fun i hi => by omega))⟩
structure PutR (n : Nat) (d kid : TreeD) (A4 : Option Addr) (c4 : Nat) (A5 : Option Addr) (c5 : Nat) (E4 : Option Addr) (e4 : Nat) (E5 : Option Addr) (e5 : Nat) (B : Nat) (w wr : World) (K : List ByteArray) (V : List TreeD) (nk nv : Nat) (B4 : Option Addr) (b4 : Nat) (B5 : Option Addr) (b5 : Nat) (ess : List (List Value)) (F : Nat -> Nat -> Prop) : Prop where
 ra : wr.heap[w.heap.size]? = some (.cells #[.int .i64 d.kind, .bool d.flag, .int .i64 d.num, .string d.text, .slice A4 d.keys.length c4, .slice A5 d.kids.length c5] 34 (0, 0))
 rk : wr.heap[w.heap.size + 1]? = some (.cells #[.int .i64 kid.kind, .bool kid.flag, .int .i64 kid.num, .string kid.text, .slice E4 kid.keys.length e4, .slice E5 kid.kids.length e5] 34 (0, 0))
 rz : wr.heap[w.heap.size + 2]? = some (.cells #[.int .i64 0, .bool false, .int .i64 0, .string ⟨#[]⟩, .slice none 0 0, .slice none 0 0] 34 (0, 0))
 ro : wr.heap[B]? = some (.cells #[.int .i64 6, .bool false, .int .i64 0, .string ⟨#[]⟩, .slice B4 nk b4, .slice B5 nv b5] 34 (0, 0))
 hk : K.length = nk
 hv : V.length = nv
 map : MapG n (B + 1) wr.heap.size wr K V (.slice B4 nk b4) (.slice B5 nv b5) ess F
 below : Below w.heap.size w wr
 lt : w.heap.size + 3 <= B
theorem Jbq {wr W : World} {base : Nat} {e : TypeId} {size n : Nat} {v : Value} {xs : List Value} (h : wr.ownsRow base e size v n xs) (he : W.heap = wr.heap) : W.ownsRow base e size v n xs := Jh h (fun q _ => by rw [he])
theorem PutR.key {n B nk nv b4 b5 c4 c5 e4 e5 : Nat} {A4 A5 E4 E5 B4 B5 : Option Addr} {d kid : TreeD} {w wr : World} {K : List ByteArray} {V : List TreeD} {ess : List (List Value)} {F : Nat -> Nat -> Prop} {w1 : World} {g cap : Nat} {key : ByteArray} (h : PutR n d kid A4 c4 A5 c5 E4 e4 E5 e5 B w wr K V nk nv B4 b4 B5 b5 ess F) (hkey : key.size <= 9223372036854775807)
  (ho : w1.ownsRow (B + 1) 9 1 (.slice (some ⟨g, 0, none⟩) (nk + 1) cap) (nk + 1) (K.map Value.string ++ [.string key])) (hkeep : ∀ b, b < wr.heap.size -> (Value.slice B4 nk b4).ownBlock ≠ some b -> w1.heap[b]? = wr.heap[b]?) (hs : wr.heap.size <= w1.heap.size) (hb : Below w.heap.size w w1) (hat : (Value.slice B4 nk b4).ownBlock = some g ∨ wr.heap.size <= g) :
  w1.heap[B]? = some (.cells #[.int .i64 6, .bool false, .int .i64 0, .string ⟨#[]⟩, .slice B4 nk b4, .slice B5 nv b5] 34 (0, 0)) /\ PutR n d kid A4 c4 A5 c5 E4 e4 E5 e5 B w (w1.setCell ⟨B, 4, none⟩ (.slice (some ⟨g, 0, none⟩) (nk + 1) cap)) (K ++ [key]) V (nk + 1) nv (some ⟨g, 0, none⟩) cap B5 b5 ess F := by
 have hl := Ja h.ro;have hlt := h.lt;have hno : ∀ b, b <= B -> (Value.slice B4 nk b4).ownBlock ≠ some b := fun b hb e => by have := (h.map.keys.lt b e).1; omega
 have hk4 := fun b (hb : b <= B) => hkeep b (by omega) (hno b hb)
 have hM := h.map.pushK (Nat.le_refl _) h.hk hkey ho hkeep hs hat;refine ⟨(hk4 B (Nat.le_refl _)).trans h.ro, ?_, ?_, ?_, ?_, by rw [List.length_append, h.hk]; rfl, h.hv, hM.carry (by simp) (fun q h1 _ => Below.heap_setCell _ _ _ q (by simp; omega)), hb.setCell (by simp; omega) _, hlt⟩
 ·exact (Below.heap_setCell _ _ _ _ (by simp; omega)).trans ((hk4 _ (by omega)).trans h.ra)
 ·exact (Below.heap_setCell _ _ _ _ (by simp; omega)).trans ((hk4 _ (by omega)).trans h.rk)
 ·exact (Below.heap_setCell _ _ _ _ (by simp; omega)).trans ((hk4 _ (by omega)).trans h.rz)
 exact heap_setCell_same w1 B 4 _ _ _ ((hk4 B (Nat.le_refl _)).trans h.ro)
theorem PutR.kid {n B nk nv b4 b5 c4 c5 e4 e5 : Nat} {A4 A5 E4 E5 B4 B5 : Option Addr} {d kid : TreeD} {w wr : World} {K : List ByteArray} {V : List TreeD} {ess : List (List Value)} {F : Nat -> Nat -> Prop} {w9 w2 : World} {g cap : Nat} {t : TreeD} {es : List Value} (h : PutR n d kid A4 c4 A5 c5 E4 e4 E5 e5 B w wr K V nk nv B4 b4 B5 b5 ess F) (hk9 : ∀ b, b < wr.heap.size -> w9.heap[b]? = wr.heap[b]?) (hs9 : wr.heap.size <= w9.heap.size) (ht : OwnT n (fun b => wr.heap.size <= b /\ b < w9.heap.size) w9 t es)
  (ho : w2.ownsRow (B + 1) 34 6 (.slice (some ⟨g, 0, none⟩) (nv + 1) cap) (nv + 1) (ess.flatten ++ es)) (hkeep : ∀ b, b < w9.heap.size -> (Value.slice B5 nv b5).ownBlock ≠ some b -> w2.heap[b]? = w9.heap[b]?) (hs : w9.heap.size <= w2.heap.size) (hb : Below w.heap.size w w2) (hat : (Value.slice B5 nv b5).ownBlock = some g ∨ w9.heap.size <= g) :
  w2.heap[B]? = some (.cells #[.int .i64 6, .bool false, .int .i64 0, .string ⟨#[]⟩, .slice B4 nk b4, .slice B5 nv b5] 34 (0, 0)) /\ ∃ F', PutR n d kid A4 c4 A5 c5 E4 e4 E5 e5 B w (w2.setCell ⟨B, 5, none⟩ (.slice (some ⟨g, 0, none⟩) (nv + 1) cap)) K (V ++ [t]) nk (nv + 1) B4 b4 (some ⟨g, 0, none⟩) cap (ess ++ [es]) F' := by
 have hl := Ja h.ro;have hlt := h.lt;have hno : ∀ b, b <= B -> (Value.slice B5 nv b5).ownBlock ≠ some b := fun b hb e => by have := (h.map.kids.lt b e).1; omega
 have hk4 := fun b (hb : b <= B) => (hkeep b (by omega) (hno b hb)).trans (hk9 b (by omega))
 have hM := (h.map.carry (Nat.le_refl _) (fun q _ hq => hk9 q hq)).pushL hs9 (by omega) h.hv ht (fun b hb => hb) ho hkeep hs hat;refine ⟨(hk4 B (Nat.le_refl _)).trans h.ro, _, ?_, ?_, ?_, ?_, h.hk, by rw [List.length_append, h.hv]; rfl, hM.carry (by simp) (fun q h1 _ => Below.heap_setCell _ _ _ q (by simp; omega)), hb.setCell (by simp; omega) _, hlt⟩
 ·exact (Below.heap_setCell _ _ _ _ (by simp; omega)).trans ((hk4 _ (by omega)).trans h.ra)
 ·exact (Below.heap_setCell _ _ _ _ (by simp; omega)).trans ((hk4 _ (by omega)).trans h.rk)
 ·exact (Below.heap_setCell _ _ _ _ (by simp; omega)).trans ((hk4 _ (by omega)).trans h.rz)
 exact heap_setCell_same w2 B 5 _ _ _ ((hk4 B (Nat.le_refl _)).trans h.ro)
theorem UR (key : ByteArray) (kid : TreeD) (ks : List ByteArray) (vs : List TreeD) : ∀ i, (YD key kid ks vs i).ks.length = (YD key kid ks vs i).vs.length /\ (YD key kid ks vs i).ks.length <= i + 1 /\ ((YD key kid ks vs i).laid = false -> (YD key kid ks vs i).ks.length <= i)
 | 0 => ⟨rfl, Nat.zero_le _, fun _ => Nat.le_refl _⟩
 | i + 1 => by
  obtain ⟨h1, h2, h3⟩ := UR key kid ks vs i;rw [YD];split
  ·unfold UN
   generalize YD key kid ks vs i = st at *;obtain ⟨l, K, V⟩ := st;simp only at *;repeat' split
   rotate_left
   rotate_left
   ·exact ⟨h1, (show K.length <= i + 1 + 1 by omega), fun h => (show K.length <= i + 1 by have := h3 h; omega)⟩
   ·exact ⟨by simp [h1], by simp; omega, fun h => by have := h3 h; simp; omega⟩
   all_goals
    rename_i c _
    simp at c;have := h3 c.1;refine ⟨by simp [h1], by simp; omega, fun h => by cases h⟩
  exact ⟨h1, by omega, fun h => by have := h3 h; omega⟩
def Jiy (n : Nat) (d : TreeD) (key : ByteArray) (kid : TreeD) (w : World) (e : Ending) (w' : World) : Prop :=
 ∃ cs', e = .returned (.tuple #[.agg cs'.toArray, .bool (JbR (n + 1) d key kid)]) /\ OwnT (n + 1) (fun q => w.heap.size <= q /\ q < w'.heap.size) w' (JjA (n + 1) d key kid) cs' /\ Below w.heap.size w w'
theorem Jf6 {n : Nat} {d kid : TreeD} {key : ByteArray} {w wF : World} {C4 C5 : Option Addr} {n4 d4 n5 d5 : Nat} {k m : Int} {f : Bool} {t : ByteArray} (h : JbR (n + 1) d key kid = false) (hO : OwnT (n + 1) (fun q => w.heap.size <= q /\ q < wF.heap.size) wF d [.int .i64 k, .bool f, .int .i64 m, .string t, .slice C4 n4 d4, .slice C5 n5 d5]) (hb : Below w.heap.size w wF) :
  Jiy n d key kid w (.returned (.tuple #[.agg #[.int .i64 k, .bool f, .int .i64 m, .string t, .slice C4 n4 d4, .slice C5 n5 d5], .bool false])) wF := by
 refine ⟨_, by rw [h], ?_, hb⟩;unfold JjA;rw [if_neg (by rw [h]; decide)];exact hO
theorem Jgj (n : Nat) (d kid : TreeD) (cs es : List Value) (key : ByteArray) (w : World) (lo : Nat) (h : C_Tree (n + 1) lo w.heap.size w d cs) (hkd : C_Tree n lo w.heap.size w kid es) (_hkey : key.size <= 9223372036854775807) (_hz : Jl (n + 1) d <= 1073741824) (_hkz : Jl n kid <= 1048576) (hn : QT (n + 1) d <= 1048576) (_hkn : QT n kid <= 1048576) (hd : d.kind ≠ 6) : Calls Tryz.prog 149 #[.agg cs.toArray, .string key, .agg es.toArray] w (Jiy n d key kid w) := by
 have HF := hid (show JbR (n + 1) d key kid = false by unfold JbR; rw [JmH hd]; rfl);have hx : (d.kind != 6) = true := bne_iff_ne.2 hd;obtain ⟨A4, c4, A5, c5, rfl⟩ := C_Tree.open h;obtain ⟨E4, e4, E5, e5, rfl⟩ := C_Tree.open hkd;have HC := hid h;clear h hd;go_enter Tryz.func149, Tryz.ntmps149
 go_wp2_with fail
 refine (Zs (n + 1) d _ _ lo (HC.out.now Jj) hn).mono ?_;rintro e wc ⟨cs1, rfl, hO, hbc⟩;obtain ⟨C4, d4, C5, d5, rfl, -⟩ := hO.flat;have Zc := (hbc.block (w.heap.size + 2) (by simp; try omega)).trans (Je (by simp));have zl := Ja Zc;obtain ⟨z0, z1, z2, z3, z4, z5, zf⟩ := Jf Zc;have HO := hid hO;have Bc : Below w.heap.size w wc := Below.trans Jj (hbc.mono (by simp; try omega))
 have hzc := hbc.size;simp at hzc;clear Zc hO hbc;go_wp2_with fail
 refine bodyPost_ret (v := .tuple #[.agg #[.int .i64 d.kind, .bool d.flag, .int .i64 d.num, .string d.text, .slice C4 d.keys.length d4, .slice C5 d.kids.length d5], .bool false]) (by simp only [results, Tryz.results149]; go_simp) rfl (Jf6 HF.out (HO.out.carry (fun b hb => Aside.block (S := fun b => b = w.heap.size + 2) (w := wc) QC b hb.2 (by have q1 := hb.1; (try simp at q1); omega)) (fun b hb => by have q1 := hb.1; have q2 := hb.2; (try simp at q1); (try simp at q2); (try simp); omega)) (Bc.trans (Aside.below (S := fun b => b = w.heap.size + 2) QC Bc.size (fun i hi => by omega))))
theorem Jim (n : Nat) (d kid : TreeD) (cs es : List Value) (key : ByteArray) (w : World) (lo : Nat) (h : C_Tree (n + 1) lo w.heap.size w d cs) (hkd : C_Tree n lo w.heap.size w kid es) (_hkey : key.size <= 9223372036854775807) (hz : Jl (n + 1) d <= 1073741824) (_hkz : Jl n kid <= 1048576) (hn : QT (n + 1) d <= 1048576) (_hkn : QT n kid <= 1048576) (hd : d.kind = 6) (ho : Uu (n + 1) d = false) : Calls Tryz.prog 149 #[.agg cs.toArray, .string key, .agg es.toArray] w (Jiy n d key kid w) := by
 have HF := hid (show JbR (n + 1) d key kid = false by unfold JbR; rw [ho, Bool.and_false]; rfl);have hx : (d.kind != 6) = false := by simp [hd]
 obtain ⟨A4, c4, A5, c5, rfl⟩ := C_Tree.open h;obtain ⟨E4, e4, E5, e5, rfl⟩ := C_Tree.open hkd;have HC := hid h;have Ho := hid ho;clear h hd ho;go_enter Tryz.func149, Tryz.ntmps149
 go_wp2_with fail
 refine (Vd (n + 1) d _ _ lo (HC.out.now Jj) hz).mono ?_;rintro e w1 ⟨rfl, hb1⟩;rw [Ho.out];have HB1 := hid (Below.trans Jj (hb1.mono (by simp; try omega)) : Below w.heap.size w w1);have hA := hid ((hb1.block w.heap.size (by simp; try omega)).trans ((Below.heap_alloc _ _ _ (by simp; try omega)).trans ((Below.heap_alloc _ _ _ (by simp; try omega)).trans (Je rfl))));have hZ := hid ((hb1.block (w.heap.size + 2) (by simp; try omega)).trans (Je (by simp)))
 have al := Ja hA.out;have zl1 := Ja hZ.out;have hB := HB1.out;obtain ⟨a0, a1, a2, a3, a4, a5, af⟩ := Jf hA.out;clear hb1;go_wp2_with fail
 refine (Zs (n + 1) d _ _ lo (HC.out.now Jj) hn).mono ?_;rintro e wc ⟨cs1, rfl, hO, hbc⟩;obtain ⟨C4, d4, C5, d5, rfl, -⟩ := hO.flat;have Zc := (hbc.block (w.heap.size + 2) (Ja hZ.out)).trans hZ.out;have zl := Ja Zc;obtain ⟨z0, z1, z2, z3, z4, z5, zf⟩ := Jf Zc;have HO := hid hO;have Bc : Below w.heap.size w wc := HB1.out.trans (hbc.mono HB1.out.size);have hzc := hbc.size;clear Zc hO hbc
 go_wp2_with fail
 refine bodyPost_ret (v := .tuple #[.agg #[.int .i64 d.kind, .bool d.flag, .int .i64 d.num, .string d.text, .slice C4 d.keys.length d4, .slice C5 d.kids.length d5], .bool false]) (by simp only [results, Tryz.results149]; go_simp) rfl (Jf6 HF.out (HO.out.carry (fun b hb => Aside.block (S := fun b => b = w.heap.size + 2) (w := wc) QC b hb.2 (by have q1 := hb.1; (try simp at q1); omega)) (fun b hb => by have q1 := hb.1; have q2 := hb.2; (try simp at q1); (try simp at q2); (try simp); omega)) (Bc.trans (Aside.below (S := fun b => b = w.heap.size + 2) QC Bc.size (fun i hi => by omega))))
theorem PutR.keysRow {n B nk nv b4 b5 c4 c5 e4 e5 : Nat} {A4 A5 E4 E5 B4 B5 : Option Addr} {d kid : TreeD} {w wr : World} {K : List ByteArray} {V : List TreeD} {ess : List (List Value)} {F : Nat -> Nat -> Prop} (h : PutR n d kid A4 c4 A5 c5 E4 e4 E5 e5 B w wr K V nk nv B4 b4 B5 b5 ess F) : wr.ownsRow (B + 1) 9 1 (.slice B4 nk b4) nk (K.map Value.string) := by
 have := h.map.keys;rw [h.hk] at this;exact this
theorem PutR.kidsRow {n B nk nv b4 b5 c4 c5 e4 e5 : Nat} {A4 A5 E4 E5 B4 B5 : Option Addr} {d kid : TreeD} {w wr : World} {K : List ByteArray} {V : List TreeD} {ess : List (List Value)} {F : Nat -> Nat -> Prop} (h : PutR n d kid A4 c4 A5 c5 E4 e4 E5 e5 B w wr K V nk nv B4 b4 B5 b5 ess F) : wr.ownsRow (B + 1) 34 6 (.slice B5 nv b5) nv ess.flatten := by
 have := h.map.kids;rw [h.hv] at this;exact this
theorem JaW {W wx w2 : World} {o : Obj} {r : Option Nat} (hg : W.grownBy w2 r) (he : W.heap = (wx.alloc o).heap) : (∀ b, b < wx.heap.size -> r ≠ some b -> w2.heap[b]? = wx.heap[b]?) /\ wx.heap.size + 1 <= w2.heap.size := by
 have hz : W.heap.size = wx.heap.size + 1 := by rw [he]; simp
 refine ⟨fun b hb hn => ?_, by have := hg.size; omega⟩;rw [hg.block b (by omega) (fun e => hn e.symm), he];exact Below.heap_alloc _ _ _ hb
theorem Jix {key k : ByteArray} {kid v : TreeD} {l l' : Bool} {K K' : List ByteArray} {V V' : List TreeD} (h : (if !l && !JU k key then (⟨true, K ++ [key], V ++ [kid]⟩ : PutSt) else ⟨l, K, V⟩) = ⟨l', K', V'⟩) : UN key kid ⟨l, K, V⟩ k v = if k = key then ⟨l', K', V'⟩ else ⟨l', K' ++ [k], V' ++ [v]⟩ := by
 unfold UN;simp only;split at h
 ·rename_i c
  rw [if_pos c];cases h
  rfl
 rename_i c
 rw [if_neg c];cases h
 rfl
theorem Jb3 (key : ByteArray) (kid : TreeD) (ks : List ByteArray) (vs : List TreeD) : ∀ i, ∀ x ∈ (YD key kid ks vs i).vs, x = kid ∨ x ∈ vs
 | 0, x, hx => by cases hx
 | i + 1, x, hx => by
  have ih := Jb3 key kid ks vs i;rw [YD] at hx;split at hx
  ·rename_i k v hk hv
   have hvm := List.mem_of_getElem? hv;unfold UN at hx;generalize YD key kid ks vs i = st at *;obtain ⟨l, K, V⟩ := st;simp only at *;repeat' split at hx
   all_goals (simp at hx)
   ·rcases hx with hx | hx
    ·exact ih x hx
    exact .inl hx
   ·rcases hx with hx | hx | hx
    ·exact ih x hx
    ·exact .inl hx
    subst hx; exact .inr hvm
   ·exact ih x hx
   rcases hx with hx | hx
   ·exact ih x hx
   subst hx; exact .inr hvm
  exact ih x hx
theorem Jku {n : Nat} {d kid : TreeD} (key : ByteArray) (hz : Jl (n + 1) d <= 300) (hkz : Jl n kid <= 1048576) (hl : d.keys.length = d.kids.length) : Jl (n + 1) (Ja2 d key kid) <= 1073741824 := by
 have hs := Yb (f := Jl n) (B := 1048576) (l := (JbH key kid (YD key kid d.keys d.kids d.keys.length)).vs) (fun x hx => by
  have h2 : x = kid ∨ x ∈ d.kids := by
   unfold JbH at hx;split at hx
   ·exact Jb3 key kid d.keys d.kids _ x hx
   simp at hx;rcases hx with hx | hx
   ·exact Jb3 key kid d.keys d.kids _ x hx
   exact .inl hx
  rcases h2 with rfl | h2
  ·exact hkz
  obtain ⟨i, hi⟩ := List.getElem?_of_mem h2;have := VL (n := n) hi
  omega)
 have h3 : d.kids.length <= 300 ∨ n = 0 := by
  cases n with
  | zero => exact .inr rfl
  | succ n =>
   left
   have h4 : ∀ l : List TreeD, l.length <= QZ (Jl (n + 1)) l := by
    intro l;induction l with
    | nil => exact Nat.le_refl _
    | cons t l ih => simp only [QZ, List.length_cons]; rw [JJ]; omega
   have := h4 d.kids;rw [JJ] at hz;omega
 have h5 := UR key kid d.keys d.kids d.keys.length;rw [JJ];show 1 + QZ (Jl n) (JbH key kid (YD key kid d.keys d.kids d.keys.length)).vs <= _
 rcases h3 with h3 | h3
 ·have h6 : (JbH key kid (YD key kid d.keys d.kids d.keys.length)).vs.length <= 302 := by
   unfold JbH;split
   ·omega
   simp; omega
  have h7 := Nat.mul_le_mul_right 1048576 h6;omega
 subst h3
 have h8 : ∀ l : List TreeD, QZ (Jl 0) l = 0 := by
  intro l;induction l with
  | nil => rfl
  | cons t l ih => simp only [QZ]; rw [ih]; rfl
 rw [h8];omega
theorem Jlr {n : Nat} {d kid : TreeD} {key : ByteArray} {w wF : World} {C4 C5 : Option Addr} {n4 d4 n5 d5 : Nat} (h : JbR (n + 1) d key kid = true) (hO : OwnT (n + 1) (fun q => w.heap.size <= q /\ q < wF.heap.size) wF (Ja2 d key kid) [.int .i64 6, .bool false, .int .i64 0, .string ⟨#[]⟩, .slice C4 n4 d4, .slice C5 n5 d5]) (hb : Below w.heap.size w wF) :
  Jiy n d key kid w (.returned (.tuple #[.agg #[.int .i64 6, .bool false, .int .i64 0, .string ⟨#[]⟩, .slice C4 n4 d4, .slice C5 n5 d5], .bool true])) wF := by
 refine ⟨_, by rw [h], ?_, hb⟩;unfold JjA;rw [if_pos h];exact hO
theorem Jga (n : Nat) (d kid : TreeD) (cs es : List Value) (key : ByteArray) (w : World) (lo : Nat) (h : C_Tree (n + 1) lo w.heap.size w d cs) (hkd : C_Tree n lo w.heap.size w kid es) (hkey : key.size <= 9223372036854775807) (hz : Jl (n + 1) d <= 1073741824) (hkz : Jl n kid <= 1048576) (hn : QT (n + 1) d <= 1048576) (hkn : QT n kid <= 1048576) (hd : d.kind = 6) (ho : Uu (n + 1) d = true) : Calls Tryz.prog 149 #[.agg cs.toArray, .string key, .agg es.toArray] w (Jiy n d key kid w) := by
 obtain ⟨i0, hi, hz0, hz1, hz2⟩ := info_parts (show (Tryz.prog.info? 34).map (fun i => (i.zero, i.size, i.bytes)) = some (some (.agg #[.int .i64 0, .bool false, .int .i64 0, .string ⟨#[]⟩, .slice none 0 0, .slice none 0 0]), 6, 88) from by kernel_rfl);obtain ⟨j0, gi, gz0, gz1, gz2⟩ := info_parts (show (Tryz.prog.info? 9).map (fun i => (i.zero, i.size, i.bytes)) = some (some (.string ⟨#[]⟩), 1, 16) from by kernel_rfl)
 have hx : (d.kind != 6) = false := by simp [hd]
 have hok : Jl (n + 1) d <= 300 /\ d.keys.length = d.kids.length := by
  rw [XG] at ho;simp only [Bool.and_eq_true, decide_eq_true_eq] at ho;refine ⟨ho.1.2, ?_⟩;have := (JZ ho.2).2.2.1;unfold JQ at this;simp [hd] at this;exact this
 have Hz3 := hid (Jku key hok.1 hkz hok.2);have Hks := hid (fun k f (hf : d.kids[k]? = some f) => (VL (n := n) hf));have Hln := hid hok.2;have Hbf := hid (show JbR (n + 1) d key kid = Uu (n + 1) (Ja2 d key kid) by unfold JbR; rw [hd, ho]; rfl);obtain ⟨v4, v5, rfl, a0, a2, a3, a4, a5⟩ := h.out;obtain ⟨A4, c4, rfl, hlc4, hcc4, hA4⟩ := a4;obtain ⟨A5, c5, rfl, hlc5, hcc5, hA5⟩ := a5
 obtain ⟨E4, e4, E5, e5, rfl⟩ := C_Tree.open hkd;have m4 : d.keys.length <= 1048576 := by rw [V0] at hn; have := Jcm ByteArray.size d.keys; omega
 have HC := hid h;have HKd := hid hkd;have Ho := hid ho;have HA4 := hid hA4;have HA5 := hid hA5;clear h hd ho hok hkd hA4 hA5;go_enter Tryz.func149, Tryz.ntmps149
 go_wp2_with fail
 refine (Vd (n + 1) d _ _ lo (HC.out.now Jj) hz).mono ?_;rintro e w1 ⟨rfl, hb1⟩;rw [Ho.out];have HB1 := hid (Below.trans Jj (hb1.mono (by simp; try omega)) : Below w.heap.size w w1);have hA := hid ((hb1.block w.heap.size (by simp; try omega)).trans ((Below.heap_alloc _ _ _ (by simp; try omega)).trans ((Below.heap_alloc _ _ _ (by simp; try omega)).trans (Je rfl))));have hK := hid ((hb1.block (w.heap.size + 1) (by simp; try omega)).trans ((Below.heap_alloc _ _ _ (by simp; try omega)).trans (Je (by simp))))
 have hZ := hid ((hb1.block (w.heap.size + 2) (by simp; try omega)).trans (Je (by simp)));have al := Ja hA.out;have kl := Ja hK.out;have zl := Ja hZ.out;have hsz1 := hb1.size;simp at hsz1;obtain ⟨a0, a1, a2, a3, a4, a5, af⟩ := Jf hA.out;clear hb1;go_wp2_with fail
 go_loopw [9, 10] (fun s9 s10 wr => ∃ (i : Nat) (l : Bool) (K : List ByteArray) (V : List TreeD), i <= d.keys.length /\ s10 = .int .i64 i /\ s9 = .bool l /\ YD key kid d.keys d.kids i = ⟨l, K, V⟩ /\ ∃ (nk nv : Nat) (B4 : Option Addr) (b4 : Nat) (B5 : Option Addr) (b5 : Nat) (ess : List (List Value)) (F : Nat -> Nat -> Prop), PutR n d kid A4 c4 A5 c5 E4 e4 E5 e5 w1.heap.size w wr K V nk nv B4 b4 B5 b5 ess F) (fun _ s10 _ => d.keys.length - (intOf s10).toNat)
 case atStart =>
  exact ⟨0, false, [], [], Nat.zero_le _, rfl, rfl, rfl, 0, 0, none, 0, none, 0, [], (fun _ _ => False), ⟨(Below.heap_alloc _ _ _ al).trans hA.out, (Below.heap_alloc _ _ _ kl).trans hK.out, (Below.heap_alloc _ _ _ zl).trans hZ.out, Je rfl, rfl, rfl, MapG.nil _ _ _ _, HB1.out.alloc HB1.out.size _, by omega⟩⟩
 case round =>
  clear a0 a1 a2 a3 a4 a5 af;obtain ⟨i, l, K, V, hile, rfl, rfl, hst, nk, nv, B4, b4, B5, b5, ess, F, hP⟩ := hrel;have hsl := UR key kid d.keys d.kids i;rw [hst] at hsl;have hnk : nk <= 1048577 := by have := hP.hk; have := hsl.2.1; simp only at this; omega
  have hnv : nv <= 1048577 := by have := hP.hv; have := hP.hk; have := hsl.1; simp only at this; omega
  have HS := hid hst;have HP := hid hP;clear hst hP hsl;obtain ⟨a0, a1, a2, a3, a4, a5, af⟩ := Jf HP.out.ra;have wal := Ja HP.out.ra;by_cases hlt : i < d.keys.length
  ·obtain ⟨b, o, rfl, -, hb2, hcell⟩ := HA4.out (by omega)
   obtain ⟨k, hk⟩ := Jg hlt;obtain ⟨es', -, hcs, rfl, hks⟩ := hcell i k hk;have hc := (HP.out.below.cell (p := ⟨b, o + i * 1 + 0, none⟩) (by simp; omega)).trans (hcs 0 (by omega));simp at hc;have Hcs := hid hcs;have hlt5 : i < d.kids.length := by have := Hln.out; omega
   obtain ⟨fb, fo, rfl, -, hfb2, hfcell⟩ := HA5.out (by omega);obtain ⟨v, hv⟩ := Jg hlt5;obtain ⟨fs, -, hfc, hCf⟩ := hfcell i v hv;obtain ⟨gA4, gc4, gA5, gc5, rfl, ga0, ga2, ga3⟩ := hCf.flat;have hnf : QT n v <= 1048576 := by rw [V0] at hn; have := Jcm (QT n) d.kids; have := Ql (QT n) d.kids i v hv; have := Yl (QT n) d.kids (i+1); omega
   have Hnx := hid (JcX (key := key) (kid := kid) hk hv);have HCf := hid hCf;have Hfc := hid hfc;have hi0 : (0 : Int) <= i := by omega
   have hi1 : (i : Int) < d.keys.length := by omega
   have hi2 : (i : Int) < d.kids.length := by omega
   have hbl : b < wr.heap.size := Nat.lt_of_lt_of_le hb2 HP.out.below.size;clear hcs hcell hfcell hfc hCf hk hv;obtain ⟨q, hq⟩ : ∃ q, q = (!l && !JU k key) := ⟨_, rfl⟩
   go_upto_region 8 with fail
   go_cut [39] from 29 to 39 (fun s39 wx => s39 = .bool q /\ wr = wx)
   case first =>
    cases l with
    | true =>
     go_wp2_with fail
     go_meet
     exact ⟨by rw [hq]; rfl, rfl⟩
    | false =>
     by_cases hq1 : JU k key = true
     focus
      have hql : Op.bytesLess k.toList key.toList = true := hq1;rw [hq1] at hq
     rotate_left
     focus
      have hq0 : JU k key = false := by simpa using hq1
      have hql : Op.bytesLess k.toList key.toList = false := hq0;rw [hq0] at hq;clear hq1
     rotate_left
     all_goals
      go_wp2_with fail
      go_meet
      exact ⟨by rw [hq]; rfl, rfl⟩
   case rest =>
   obtain ⟨rfl, rfl⟩ := hcut;have Hq := hid hq;clear hq;go_upto_if 39 with fail
   go_cut [9] from 40 to 52 (fun s9 wx => ∃ (l' : Bool) (K' : List ByteArray) (V' : List TreeD), s9 = .bool l' /\ (if !l && !JU k key then (⟨true, K ++ [key], V ++ [kid]⟩ : PutSt) else ⟨l, K, V⟩) = ⟨l', K', V'⟩ /\ K'.length <= 1048577 /\ V'.length <= 1048577 /\ ∃ (nk nv : Nat) (B4 : Option Addr) (b4 : Nat) (B5 : Option Addr) (b5 : Nat) (ess : List (List Value)) (F : Nat -> Nat -> Prop), PutR n d kid (some ⟨b, o, none⟩) c4 (some ⟨fb, fo, none⟩) c5 E4 e4 E5 e5 w1.heap.size w wx K' V' nk nv B4 b4 B5 b5 ess F)
   case first =>
    have hKl : K.length <= 1048576 + 1 := by have := HP.out.hk; omega
    have hVl : V.length <= 1048576 + 1 := by have := HP.out.hv; omega
    cases q with
    | false =>
     go_wp2_with fail
     go_meet
     exact ⟨l, K, V, rfl, by rw [<- Hq.out]; rfl, hKl, hVl, _, _, _, _, _, _, _, _, HP.out⟩
    | true =>
     have hsl := UR key kid d.keys d.kids i;rw [HS.out] at hsl
     have hl0 : l = false := by
      have := Hq.out;cases l
      ·rfl
      cases this
     have hk2 : K.length <= 1048576 := by have := hsl.2.2 hl0; simp only at this; omega
     have hv2 : V.length <= 1048576 := by have := hsl.1; simp only at this; omega
     clear hsl hKl hVl hl0;obtain ⟨x0, x1, x2, x3, x4, x5, xf⟩ := Jf HP.out.ro;have xl := Ja HP.out.ro;have HKr := hid HP.out.keysRow;have hbrx : Below w.heap.size w wr := HP.out.below;obtain ⟨r, hr⟩ : ∃ r, r = (Value.slice B4 nk b4).ownBlock := ⟨_, rfl⟩
     have hrl : ∀ q, r = some q -> w1.heap.size + 1 <= q := fun q hq => (HKr.out.lt q (by rw [<- hr]; exact hq)).1
     have hnB : r ≠ some w1.heap.size := fun h => by have := hrl _ h; omega
     have HnB := hid hnB;have Hrl := hid hrl;have Hr := hid hr;clear hrl hr hnB;go_wp2_with (at_builtin; refine wpList_append_lies _ rfl (.tmp 41) (.tmp 43) 31 rfl (w1.heap.size + 1) 9 j0 (.string ⟨#[]⟩) 1 16 Tryz.underlying31 gi gz0 gz1 gz2 rfl (by decide) _ nk (K.map Value.string) rfl ((Jbq HKr.out rfl).alloc _) _ 1 1 [.string key] rfl rfl (World.news_of_block (Je (by simp))) (by intro u hu; simp at hu; subst hu; rfl) (by decide) (by unfold maxLen; omega) (by omega) (by simp; omega) _ rfl ?_)
     intro g cap w2 hown hgrow hat hlt2;have hgrow4 := Ym Hr.out hgrow;obtain ⟨hkp, hs2⟩ := JaW (wx := wr) hgrow4 rfl;have hbW : Below w.heap.size w w2 := Below.grown (B := w.heap.size) Jj hgrow4 (by have := HP.out.below.size; simp; omega) (fun q hq => by have := Hrl.out q hq; omega);obtain ⟨hbx, hP2⟩ := HP.out.key hkey hown (fun b hb hne => hkp b hb (fun e => hne (by rw [<- Hr.out]; exact e))) (by omega) hbW (hat.imp id (fun h => by (try simp at h); omega))
     have HP2 := hid hP2;clear hgrow hgrow4 hkp hbW hown hat hP2 x0 x1 x2 x3 x4 x5 xf hs2 hbrx;obtain ⟨x0, x1, x2, x3, x4, x5, xf⟩ := Jf hbx;have xl2 := Ja hbx;clear hbx;go_wp2_with fail
     obtain ⟨w3, hw3⟩ : ∃ W, W = w2.setCell ⟨w1.heap.size, 4, none⟩ (.slice (some ⟨g, 0, none⟩) (nk + 1) cap) := ⟨_, rfl⟩
     rw [<- hw3];have hP3 := HP2.out;rw [<- hw3] at hP3;have HP3 := hid hP3;have hbr3 : Below w.heap.size w w3 := hP3.below;clear hw3 hP3 HP2 x0 x1 x2 x3 x4 x5 xf xl xl2 HKr Hr Hrl HnB r;obtain ⟨x0, x1, x2, x3, x4, x5, xf⟩ := Jf HP3.out.ro;have xl := Ja HP3.out.ro;obtain ⟨y0, y1, y2, y3, y4, y5, yf⟩ := Jf HP3.out.rk;have yl := Ja HP3.out.rk;have HLr := hid HP3.out.kidsRow;obtain ⟨r, hr⟩ : ∃ r, r = (Value.slice B5 nv b5).ownBlock := ⟨_, rfl⟩
     have hrl : ∀ q, r = some q -> w1.heap.size + 1 <= q := fun q hq => (HLr.out.lt q (by rw [<- hr]; exact hq)).1
     have hnB : r ≠ some w1.heap.size := fun h => by have := hrl _ h; omega
     have HnB := hid hnB;have Hrl := hid hrl;have Hr := hid hr;clear hrl hr hnB;go_region_law (first | (go_simp; go_at_call 69; refine (Zs n kid _ _ lo (HKd.out.now Jj) hkn).mono ?_; rintro e w9 ⟨cs9, rfl, ho9, hb9⟩; obtain ⟨fA4, fc4, fA5, fc5, rfl, fa0, fa2, fa3⟩ := ho9.flat; obtain ⟨-, -, -, -, -, p5, -⟩ := Jf ((hb9.block w1.heap.size xl).trans HP3.out.ro); have p9 : w1.heap.size < w9.heap.size := Nat.lt_of_lt_of_le xl hb9.size) | (refine step_append_lies _ rfl (.tmp 47) (.tmp 50) 32 rfl (w1.heap.size + 1) 34 i0 (.agg #[.int .i64 0, .bool false, .int .i64 0, .string ⟨#[]⟩, .slice none 0 0, .slice none 0 0]) 6 88 Tryz.underlying32 hi hz0 hz1 hz2 rfl (by decide) _ nv ess.flatten rfl (Jle HLr.out hb9 rfl rfl) ⟨w9.heap.size, 0, none⟩ 1 1 [.int .i64 kid.kind, .bool kid.flag, .int .i64 kid.num, .string kid.text, .slice fA4 kid.keys.length fc4, .slice fA5 kid.kids.length fc5] rfl rfl (World.news_of_block (heap_alloc_new w9 _)) ho9.one (by decide) (by unfold maxLen; omega) (by omega) (by have := hb9.size; simp at this ⊢; omega) _ rfl ?_; intro g2 cap2 w4 hown2 hgrow2 hat2 hlt4; have hgrow3 := Ym Hr.out hgrow2; obtain ⟨-, -, -, -, -, q5, qf⟩ := Jf (JgA HP3.out.ro hb9 rfl hgrow2 Hr.out HnB.out)))
     all_goals
      have hs9 : w3.heap.size <= w9.heap.size := hb9.size;have hB9 : Below w.heap.size w w9 := Jj;have hs4 := hgrow3.size;simp at hs4;have hk9 : ∀ b, b < w3.heap.size -> w9.heap[b]? = w3.heap[b]? := fun b hb => hb9.block b hb
      obtain ⟨-, F2, hP4⟩ := HP3.out.kid hk9 hs9 ho9 hown2 (fun b hb hne => (hgrow3.block b (by simp; omega) (fun e => hne (by rw [<- Hr.out]; exact e.symm))).trans (Below.heap_alloc _ _ _ hb)) (by omega) (Below.grown (hB9.alloc hB9.size _) hgrow3 (by have := hB9.size; simp; omega) (fun q hq => by have := Hrl.out q hq; omega)) (hat2.imp id (fun h => by (try simp at h); omega));have HP4 := hid hP4
      clear hgrow2 hgrow3 hown2 hat2 hP4 hk9 ho9 hb9;go_wp2_with fail
      go_meet
      exact ⟨true, _, _, rfl, by rw [<- Hq.out]; rfl, by simp; omega, by simp; omega, _, _, _, _, _, _, _, _, HP4.out⟩
   case rest =>
    obtain ⟨l', K, V, rfl, hif, hK2, hV2, nk, nv, B4, b4, B5, b5, ess, F, hP⟩ := hcut;have Hif := hid (Jix (v := v) hif);clear hif HP a0 a1 a2 a3 a4 a5 af hc;obtain ⟨wx, hwx⟩ : ∃ x, x = wc := ⟨_, rfl⟩
    rw [<- hwx] at hP ⊢;clear hwx;have HP := hid hP;have hbrx : Below w.heap.size w wx := hP.below;have hnk : nk <= 1048577 := by have := hP.hk; omega
    have hnv : nv <= 1048577 := by have := hP.hv; omega
    clear hP;rw [HS.out] at Hnx;obtain ⟨a0, a1, a2, a3, a4, a5, af⟩ := Jf HP.out.ra;have wal := Ja HP.out.ra;have hc := (HP.out.below.cell (p := ⟨b, o + i * 1 + 0, none⟩) (by simp; omega)).trans (Hcs.out 0 (by omega));simp at hc;have hblx : b < wx.heap.size := Nat.lt_of_lt_of_le hb2 HP.out.below.size;by_cases hke : k = key
    ·have HR := hid (show YD key kid d.keys d.kids (i + 1) = ⟨l', K, V⟩ by rw [Hnx.out, Hif.out, if_pos hke])
     have e1 : (k.toList == key.toList) = true := by rw [hke]; simp
     have e2 : (k.toList != key.toList) = false := by rw [hke]; simp
     clear hke;go_wp2_with fail
     go_roundw
     case rel => exact ⟨i + 1, l', K, V, by omega, by go_num, rfl, HR.out, _, _, _, _, _, _, _, _, HP.out⟩
     case measure => simp [intOf]; omega
    have HR := hid (show YD key kid d.keys d.kids (i + 1) = ⟨l', K ++ [k], V ++ [v]⟩ by rw [Hnx.out, Hif.out, if_neg hke]);have e0 : ¬ k.toList = key.toList := fun e => hke (toList_inj e)
    have e1 : (k.toList == key.toList) = false := JmH e0;have e2 : (k.toList != key.toList) = true := bne_iff_ne.2 e0;clear hke;go_upto_region 13 with fail
    go_cut [] from 60 to 69 (fun wy => ∃ (B4' : Option Addr) (b4' : Nat), PutR n d kid (some ⟨b, o, none⟩) c4 (some ⟨fb, fo, none⟩) c5 E4 e4 E5 e5 w1.heap.size w wy (K ++ [k]) V (nk + 1) nv B4' b4' B5 b5 ess F)
    case first =>
     obtain ⟨x0, x1, x2, x3, x4, x5, xf⟩ := Jf HP.out.ro;have xl := Ja HP.out.ro;have HKr := hid HP.out.keysRow;have hbrx : Below w.heap.size w wx := HP.out.below;obtain ⟨r, hr⟩ : ∃ r, r = (Value.slice B4 nk b4).ownBlock := ⟨_, rfl⟩
     have hrl : ∀ q, r = some q -> w1.heap.size + 1 <= q := fun q hq => (HKr.out.lt q (by rw [<- hr]; exact hq)).1
     have hnB : r ≠ some w1.heap.size := fun h => by have := hrl _ h; omega
     have HnB := hid hnB;have Hrl := hid hrl;have Hr := hid hr;clear hrl hr hnB;go_wp2_with fail
     go_region_law (refine step_append_lies _ rfl (.tmp 61) (.tmp 67) 31 rfl (w1.heap.size + 1) 9 j0 (.string ⟨#[]⟩) 1 16 Tryz.underlying31 gi gz0 gz1 gz2 rfl (by decide) _ nk (K.map Value.string) rfl ((Jbq HKr.out rfl).alloc _) _ 1 1 [.string k] rfl rfl (World.news_of_block (Je (by simp))) (by intro u hu; simp at hu; subst hu; rfl) (by decide) (by unfold maxLen; omega) (by omega) (by simp; omega) _ rfl ?_; intro g cap w2 hown hgrow hat hlt2; have hgrow3 := Ym Hr.out hgrow; obtain ⟨-, -, -, -, q4, -, qf⟩ := Jf (((JaW (wx := wx) hgrow3 rfl).1 _ xl HnB.out).trans HP.out.ro))
     all_goals
      have hgrow4 := Ym Hr.out hgrow;obtain ⟨hkp, hs2⟩ := JaW (wx := wx) hgrow4 rfl;have hbW : Below w.heap.size w w2 := Below.grown (B := w.heap.size) Jj hgrow4 (by have := HP.out.below.size; simp; omega) (fun q hq => by have := Hrl.out q hq; omega);obtain ⟨hbx, hP2⟩ := HP.out.key hks hown (fun b hb hne => hkp b hb (fun e => hne (by rw [<- Hr.out]; exact e))) (by omega) hbW (hat.imp id (fun h => by (try simp at h); omega))
      have HP2 := hid hP2;clear hgrow hgrow4 hkp hbW hown hat hP2 q4 qf hgrow3 a0 a1 a2 a3 a4 a5 af hc x0 x1 x2 x3 x4 x5 xf hs2 hbrx;obtain ⟨x0, x1, x2, x3, x4, x5, xf⟩ := Jf hbx;have xl2 := Ja hbx;clear hbx;go_wp2_with fail
      go_meet
      exact ⟨_, _, HP2.out⟩
    case rest =>
     obtain ⟨B4', b4', hP3⟩ := hcut;obtain ⟨w3, hw3⟩ : ∃ x, x = wc := ⟨_, rfl⟩
     rw [<- hw3] at hP3 ⊢;clear hw3 HP hbrx a0 a1 a2 a3 a4 a5 af hc;have HP3 := hid hP3;have hbr3 : Below w.heap.size w w3 := hP3.below;clear hP3;go_wp2_with fail
     obtain ⟨x0, x1, x2, x3, x4, x5, xf⟩ := Jf HP3.out.ro;have xl := Ja HP3.out.ro;have hc0 := (hbr3.cell (p := ⟨fb, fo + i * 6 + 0, none⟩) (by simp; omega)).trans (Hfc.out 0 (by omega));have hc1 := (hbr3.cell (p := ⟨fb, fo + i * 6 + 1, none⟩) (by simp; omega)).trans (Hfc.out 1 (by omega));have hc2 := (hbr3.cell (p := ⟨fb, fo + i * 6 + 2, none⟩) (by simp; omega)).trans (Hfc.out 2 (by omega))
     have hc3 := (hbr3.cell (p := ⟨fb, fo + i * 6 + 3, none⟩) (by simp; omega)).trans (Hfc.out 3 (by omega));have hc4 := (hbr3.cell (p := ⟨fb, fo + i * 6 + 4, none⟩) (by simp; omega)).trans (Hfc.out 4 (by omega));have hc5 := (hbr3.cell (p := ⟨fb, fo + i * 6 + 5, none⟩) (by simp; omega)).trans (Hfc.out 5 (by omega));simp at hc0 hc1 hc2 hc3 hc4 hc5;have fbl : fb < w3.heap.size := Nat.lt_of_lt_of_le hfb2 hbr3.size
     obtain ⟨y0, y1, y2, y3, y4, y5, yf⟩ := Jf HP3.out.ra;have yl := Ja HP3.out.ra;have HLr := hid HP3.out.kidsRow;obtain ⟨r, hr⟩ : ∃ r, r = (Value.slice B5 nv b5).ownBlock := ⟨_, rfl⟩
     have hrl : ∀ q, r = some q -> w1.heap.size + 1 <= q := fun q hq => (HLr.out.lt q (by rw [<- hr]; exact hq)).1
     have hnB : r ≠ some w1.heap.size := fun h => by have := hrl _ h; omega
     have HnB := hid hnB;have Hrl := hid hrl;have Hr := hid hr;clear hrl hr hnB;go_region_law (first | (go_simp; go_at_call 69; refine (Zs n v _ _ lo (HCf.out.now Jj) hnf).mono ?_; rintro e w9 ⟨cs9, rfl, ho9, hb9⟩; obtain ⟨fA4, fc4, fA5, fc5, rfl, fa0, fa2, fa3⟩ := ho9.flat; obtain ⟨-, -, -, -, -, p5, -⟩ := Jf ((hb9.block w1.heap.size xl).trans HP3.out.ro); have p9 : w1.heap.size < w9.heap.size := Nat.lt_of_lt_of_le xl hb9.size) | (refine step_append_lies _ rfl (.tmp 71) (.tmp 78) 32 rfl (w1.heap.size + 1) 34 i0 (.agg #[.int .i64 0, .bool false, .int .i64 0, .string ⟨#[]⟩, .slice none 0 0, .slice none 0 0]) 6 88 Tryz.underlying32 hi hz0 hz1 hz2 rfl (by decide) _ nv ess.flatten rfl (Jle HLr.out hb9 rfl rfl) ⟨w9.heap.size, 0, none⟩ 1 1 [.int .i64 v.kind, .bool v.flag, .int .i64 v.num, .string v.text, .slice fA4 v.keys.length fc4, .slice fA5 v.kids.length fc5] rfl rfl (World.news_of_block (heap_alloc_new w9 _)) ho9.one (by decide) (by unfold maxLen; omega) (by omega) (by have := hb9.size; simp at this ⊢; omega) _ rfl ?_; intro g2 cap2 w4 hown2 hgrow2 hat2 hlt4; have hgrow3 := Ym Hr.out hgrow2; obtain ⟨-, -, -, -, -, q5, qf⟩ := Jf (JgA HP3.out.ro hb9 rfl hgrow2 Hr.out HnB.out)))
     all_goals
      have hs9 : w3.heap.size <= w9.heap.size := hb9.size;have hB9 : Below w.heap.size w w9 := Jj;have hs4 := hgrow3.size;simp at hs4;have hk9 : ∀ b, b < w3.heap.size -> w9.heap[b]? = w3.heap[b]? := fun b hb => hb9.block b hb
      obtain ⟨-, F2, hP4⟩ := HP3.out.kid hk9 hs9 ho9 hown2 (fun b hb hne => (hgrow3.block b (by simp; omega) (fun e => hne (by rw [<- Hr.out]; exact e.symm))).trans (Below.heap_alloc _ _ _ hb)) (by omega) (Below.grown (hB9.alloc hB9.size _) hgrow3 (by have := hB9.size; simp; omega) (fun q hq => by have := Hrl.out q hq; omega)) (hat2.imp id (fun h => by (try simp at h); omega));have HP4 := hid hP4
      clear hgrow2 hgrow3 hown2 hat2 hP4 hk9 ho9 hb9;go_wp2_with fail
      go_roundw
      case rel => exact ⟨i + 1, l', _, _, by omega, by go_num, rfl, HR.out, _, _, _, _, _, _, _, _, HP4.out⟩
      case measure => simp [intOf]; omega
  obtain rfl : i = d.keys.length := by omega
  have hsl := UR key kid d.keys d.kids d.keys.length;rw [HS.out] at hsl;have hk2 : K.length <= 1048577 := by have := hsl.2.1; simp only at this; omega
  have hv2 : V.length <= 1048577 := by have := hsl.1; simp only at this; omega
  clear hsl;go_upto_if 82 with fail
  go_cut [] from 83 to 95 (fun wx => ∃ (K' : List ByteArray) (V' : List TreeD), JbH key kid ⟨l, K, V⟩ = ⟨true, K', V'⟩ /\ ∃ (nk nv : Nat) (B4 : Option Addr) (b4 : Nat) (B5 : Option Addr) (b5 : Nat) (ess : List (List Value)) (F : Nat -> Nat -> Prop), PutR n d kid A4 c4 A5 c5 E4 e4 E5 e5 w1.heap.size w wx K' V' nk nv B4 b4 B5 b5 ess F)
  case first =>
   cases l with
   | true =>
    go_wp2_with fail
    go_meet
    exact ⟨K, V, rfl, _, _, _, _, _, _, _, _, HP.out⟩
   | false =>
    clear a0 a1 a2 a3 a4 a5 af wal;obtain ⟨x0, x1, x2, x3, x4, x5, xf⟩ := Jf HP.out.ro;have xl := Ja HP.out.ro;have HKr := hid HP.out.keysRow;have hbrx : Below w.heap.size w wr := HP.out.below;obtain ⟨r, hr⟩ : ∃ r, r = (Value.slice B4 nk b4).ownBlock := ⟨_, rfl⟩
    have hrl : ∀ q, r = some q -> w1.heap.size + 1 <= q := fun q hq => (HKr.out.lt q (by rw [<- hr]; exact hq)).1
    have hnB : r ≠ some w1.heap.size := fun h => by have := hrl _ h; omega
    have HnB := hid hnB;have Hrl := hid hrl;have Hr := hid hr;clear hrl hr hnB;go_wp2_with (at_builtin; refine wpList_append_lies _ rfl (.tmp 84) (.tmp 86) 31 rfl (w1.heap.size + 1) 9 j0 (.string ⟨#[]⟩) 1 16 Tryz.underlying31 gi gz0 gz1 gz2 rfl (by decide) _ nk (K.map Value.string) rfl ((Jbq HKr.out rfl).alloc _) _ 1 1 [.string key] rfl rfl (World.news_of_block (Je (by simp))) (by intro u hu; simp at hu; subst hu; rfl) (by decide) (by unfold maxLen; omega) (by omega) (by simp; omega) _ rfl ?_)
    intro g cap w2 hown hgrow hat hlt2;have hgrow4 := Ym Hr.out hgrow;obtain ⟨hkp, hs2⟩ := JaW (wx := wr) hgrow4 rfl;have hbW : Below w.heap.size w w2 := Below.grown (B := w.heap.size) Jj hgrow4 (by have := HP.out.below.size; simp; omega) (fun q hq => by have := Hrl.out q hq; omega);obtain ⟨hbx, hP2⟩ := HP.out.key hkey hown (fun b hb hne => hkp b hb (fun e => hne (by rw [<- Hr.out]; exact e))) (by omega) hbW (hat.imp id (fun h => by (try simp at h); omega))
    have HP2 := hid hP2;clear hgrow hgrow4 hkp hbW hown hat hP2 x0 x1 x2 x3 x4 x5 xf hs2 hbrx;obtain ⟨x0, x1, x2, x3, x4, x5, xf⟩ := Jf hbx;have xl2 := Ja hbx;clear hbx;go_wp2_with fail
    obtain ⟨w3, hw3⟩ : ∃ W, W = w2.setCell ⟨w1.heap.size, 4, none⟩ (.slice (some ⟨g, 0, none⟩) (nk + 1) cap) := ⟨_, rfl⟩
    rw [<- hw3];have hP3 := HP2.out;rw [<- hw3] at hP3;have HP3 := hid hP3;have hbr3 : Below w.heap.size w w3 := hP3.below;clear hw3 hP3 HP2 x0 x1 x2 x3 x4 x5 xf xl xl2 HKr Hr Hrl HnB r;obtain ⟨x0, x1, x2, x3, x4, x5, xf⟩ := Jf HP3.out.ro;have xl := Ja HP3.out.ro;obtain ⟨y0, y1, y2, y3, y4, y5, yf⟩ := Jf HP3.out.rk;have yl := Ja HP3.out.rk;have HLr := hid HP3.out.kidsRow;obtain ⟨r, hr⟩ : ∃ r, r = (Value.slice B5 nv b5).ownBlock := ⟨_, rfl⟩
    have hrl : ∀ q, r = some q -> w1.heap.size + 1 <= q := fun q hq => (HLr.out.lt q (by rw [<- hr]; exact hq)).1
    have hnB : r ≠ some w1.heap.size := fun h => by have := hrl _ h; omega
    have HnB := hid hnB;have Hrl := hid hrl;have Hr := hid hr;clear hrl hr hnB;go_region_law (first | (go_simp; go_at_call 69; refine (Zs n kid _ _ lo (HKd.out.now Jj) hkn).mono ?_; rintro e w9 ⟨cs9, rfl, ho9, hb9⟩; obtain ⟨fA4, fc4, fA5, fc5, rfl, fa0, fa2, fa3⟩ := ho9.flat; obtain ⟨-, -, -, -, -, p5, -⟩ := Jf ((hb9.block w1.heap.size xl).trans HP3.out.ro); have p9 : w1.heap.size < w9.heap.size := Nat.lt_of_lt_of_le xl hb9.size) | (refine step_append_lies _ rfl (.tmp 90) (.tmp 93) 32 rfl (w1.heap.size + 1) 34 i0 (.agg #[.int .i64 0, .bool false, .int .i64 0, .string ⟨#[]⟩, .slice none 0 0, .slice none 0 0]) 6 88 Tryz.underlying32 hi hz0 hz1 hz2 rfl (by decide) _ nv ess.flatten rfl (Jle HLr.out hb9 rfl rfl) ⟨w9.heap.size, 0, none⟩ 1 1 [.int .i64 kid.kind, .bool kid.flag, .int .i64 kid.num, .string kid.text, .slice fA4 kid.keys.length fc4, .slice fA5 kid.kids.length fc5] rfl rfl (World.news_of_block (heap_alloc_new w9 _)) ho9.one (by decide) (by unfold maxLen; omega) (by omega) (by have := hb9.size; simp at this ⊢; omega) _ rfl ?_; intro g2 cap2 w4 hown2 hgrow2 hat2 hlt4; have hgrow3 := Ym Hr.out hgrow2; obtain ⟨-, -, -, -, -, q5, qf⟩ := Jf (JgA HP3.out.ro hb9 rfl hgrow2 Hr.out HnB.out)))
    all_goals
     have hs9 : w3.heap.size <= w9.heap.size := hb9.size;have hB9 : Below w.heap.size w w9 := Jj;have hs4 := hgrow3.size;simp at hs4;have hk9 : ∀ b, b < w3.heap.size -> w9.heap[b]? = w3.heap[b]? := fun b hb => hb9.block b hb
     obtain ⟨-, F2, hP4⟩ := HP3.out.kid hk9 hs9 ho9 hown2 (fun b hb hne => (hgrow3.block b (by simp; omega) (fun e => hne (by rw [<- Hr.out]; exact e.symm))).trans (Below.heap_alloc _ _ _ hb)) (by omega) (Below.grown (hB9.alloc hB9.size _) hgrow3 (by have := hB9.size; simp; omega) (fun q hq => by have := Hrl.out q hq; omega)) (hat2.imp id (fun h => by (try simp at h); omega));have HP4 := hid hP4
     clear hgrow2 hgrow3 hown2 hat2 hP4 hk9 ho9 hb9;go_wp2_with fail
     go_meet
     exact ⟨_, _, rfl, _, _, _, _, _, _, _, _, HP4.out⟩
  case rest =>
   obtain ⟨K, V, hE, nk, nv, B4, b4, B5, b5, ess, F, hP⟩ := hcut;have HE := hid (show QD K V = Ja2 d key kid by unfold Ja2; rw [HS.out, hE]);clear a0 a1 a2 a3 a4 a5 af wal HP hE hnk hnv hk2 hv2;obtain ⟨wx, hwx⟩ : ∃ x, x = wc := ⟨_, rfl⟩
   rw [<- hwx] at hP ⊢;clear hwx;have HP := hid hP;have hbrx : Below w.heap.size w wx := hP.below;have hO := hP.map.tree (wF := wx) (S := fun q => w1.heap.size + 1 <= q /\ q < wx.heap.size) (fun _ _ _ => rfl) (fun b h1 h2 => ⟨h1, h2⟩);rw [HE.out] at hO;have HO := hid hO;clear hP hO;obtain ⟨x0, x1, x2, x3, x4, x5, xf⟩ := Jf HP.out.ro;have xl := Ja HP.out.ro;go_wp2_with fail
   refine (Vd (n + 1) (Ja2 d key kid) _ _ 0 ((HO.out.toC (lo := 0) (hi := wx.heap.size) (fun b hb => ⟨Nat.zero_le _, hb.2⟩)).now Jj) Hz3.out).mono ?_;rintro e w5 ⟨rfl, hb5⟩;have HB5 := hid (hbrx.trans (hb5.mono hbrx.size));have hrA := hid ((hb5.block _ (Ja HP.out.ra)).trans HP.out.ra);have hrZ := hid ((hb5.block _ (Ja HP.out.rz)).trans HP.out.rz);have hrO := hid ((hb5.block _ xl).trans HP.out.ro)
   have H5 := hid hb5;have hz5 := hb5.size;clear x0 x1 x2 x3 x4 x5 xf hb5;by_cases hB : Uu (n + 1) (Ja2 d key kid) = true
   ·have HF := hid (Hbf.out.trans hB)
    rw [hB];obtain ⟨x0, x1, x2, x3, x4, x5, xf⟩ := Jf hrO.out;obtain ⟨z0, z1, z2, z3, z4, z5, zf⟩ := Jf hrZ.out;have xl5 := Ja hrO.out;have zl5 := Ja hrZ.out;clear hB;go_wp2_with fail
    refine bodyPost_ret (v := .tuple #[.agg #[.int .i64 6, .bool false, .int .i64 0, .string ⟨#[]⟩, .slice B4 nk b4, .slice B5 nv b5], .bool true]) (by simp only [results, Tryz.results149]; go_simp) rfl (Jlr HF.out (HO.out.carry (fun b hb => Eq.trans (Aside.block (S := fun b => b = w.heap.size + 2) (w := w5) QC b (by have := hb.2; omega) (by have := hb.1; omega)) (H5.out.block b hb.2)) (fun b hb => by have q1 := hb.1; have q2 := hb.2; (try simp); omega)) (HB5.out.trans (Aside.below (S := fun b => b = w.heap.size + 2) QC HB5.out.size (fun i hi => by omega))))
   have hB0 : Uu (n + 1) (Ja2 d key kid) = false := by simpa using hB
   have HF := hid (Hbf.out.trans hB0);rw [hB0];obtain ⟨a0, a1, a2, a3, a4, a5, af⟩ := Jf hrA.out;have al5 := Ja hrA.out;have zl1 := Ja hrZ.out;have hbr5 := HB5.out;clear hB hB0;go_wp2_with fail
   refine (Zs (n + 1) d _ _ lo (HC.out.now Jj) hn).mono ?_;rintro e wc ⟨cs1, rfl, hO, hbc⟩;obtain ⟨C4, d4, C5, d5, rfl, -⟩ := hO.flat;have Zc := (hbc.block (w.heap.size + 2) (Ja hrZ.out)).trans hrZ.out;have zl := Ja Zc;obtain ⟨z0, z1, z2, z3, z4, z5, zf⟩ := Jf Zc;have HO := hid hO;have Bc : Below w.heap.size w wc := HB5.out.trans (hbc.mono HB5.out.size);have hzc := hbc.size;clear Zc hO hbc
   go_wp2_with fail
   refine bodyPost_ret (v := .tuple #[.agg #[.int .i64 d.kind, .bool d.flag, .int .i64 d.num, .string d.text, .slice C4 d.keys.length d4, .slice C5 d.kids.length d5], .bool false]) (by simp only [results, Tryz.results149]; go_simp) rfl (Jf6 HF.out (HO.out.carry (fun b hb => Aside.block (S := fun b => b = w.heap.size + 2) (w := wc) QC b hb.2 (by have q1 := hb.1; (try simp at q1); omega)) (fun b hb => by have q1 := hb.1; have q2 := hb.2; (try simp at q1); (try simp at q2); (try simp); omega)) (Bc.trans (Aside.below (S := fun b => b = w.heap.size + 2) QC Bc.size (fun i hi => by omega))))
theorem Jjy (n : Nat) (d kid : TreeD) (cs es : List Value) (key : ByteArray) (w : World) (lo : Nat) (h : C_Tree (n + 1) lo w.heap.size w d cs) (hkd : C_Tree n lo w.heap.size w kid es) (hkey : key.size <= 9223372036854775807) (hz : Jl (n + 1) d <= 1073741824) (hkz : Jl n kid <= 1048576) (hn : QT (n + 1) d <= 1048576) (hkn : QT n kid <= 1048576) : Calls Tryz.prog 149 #[.agg cs.toArray, .string key, .agg es.toArray] w (Jiy n d key kid w) := by
 by_cases hd : d.kind = 6
 ·by_cases ho : Uu (n + 1) d = true
  ·exact Jga n d kid cs es key w lo h hkd hkey hz hkz hn hkn hd ho
  exact Jim n d kid cs es key w lo h hkd hkey hz hkz hn hkn hd (by simpa using ho)
 exact Jgj n d kid cs es key w lo h hkd hkey hz hkz hn hkn hd
open Go.RowKit Go.ChangeShapes Go.WideShapes Go.ChangeAt
theorem XS (w : World) (l : List Int) (hn : l.length <= 9223372036854775807) (ty : TypeId) (cs : Array Value) (hc : cs = (l.map (Value.int .i64)).toArray) :
  SlOf Jch 1 w.heap.size (w.alloc (.cells cs ty)).heap.size (w.alloc (.cells cs ty)) l (.slice (some ⟨w.heap.size, 0, none⟩) l.length l.length) := by
 subst hc;refine ⟨_, _, rfl, Nat.le_refl _, hn, fun _ => ⟨w.heap.size, 0, rfl, Nat.le_refl _, by simp, fun i d hd => ⟨[.int .i64 d], rfl, fun j hj => ?_, rfl⟩⟩⟩;obtain rfl : j = 0 := by omega
 rw [cell_of_row _ _ _ _ _ _ (heap_alloc_new w _)];simp [hd]
theorem YB (code : List UInt8) (p : Nat) (l : List Int) (v : Value) (lo : Nat) (w : World) (h : CurAt code p w) (hl : SlOf Jch 1 lo w.heap.size w l v) (hp : p < lo) (h1 : 0 < l.length) (h2 : l.length <= 1048576) :
  Calls Tryz.prog 145 #[.pointer (some ⟨p, 0, none⟩), v] w fun e w' => ∃ s : Int, e = .returned (.int .i64 s) /\ s ∈ l /\ Dr code p w w' := by
 have Hl := Lib.hid hl;obtain ⟨A, c, rfl, hlc, hc, hA⟩ := hl;obtain ⟨b, o, rfl, hb1, hb2, hcell⟩ := hA h1;have hi1 : (0 : Int) < l.length := by omega
 have HC := Lib.hid hcell;clear hA hcell;go_enter Tryz.func145, Tryz.ntmps145
 go_wp2_with fail
 refine (JC code p l.length _ h (by omega)).mono ?_;rintro e w1 ⟨x, rfl, hx0, hx1, -, hd⟩;have hx2 := hx1 hi1;obtain ⟨k, rfl⟩ : ∃ k : Nat, x = k := ⟨x.toNat, by omega⟩
 obtain ⟨s, hs⟩ := Jg (show k < l.length by omega);obtain ⟨es, -, hes, rfl⟩ := HC.out k s hs
 have hy : w1.cell? ⟨b, o + k, none⟩ = some (.int .i64 s) := by
  have := hes 0 (by omega);rw [hd.cell hb2 (by omega)]
  simpa using this
 have Hs := Lib.hid (List.mem_of_getElem? hs);clear hes hs hx1;have HD := Lib.hid hd;clear hd;go_wp2_with fail
 go_ret
 exact ⟨s, rfl, Hs.out, HD.out⟩
theorem JiP (code : List UInt8) (p : Nat) (w : World) (h : CurAt code p w) :
  Calls Tryz.prog 251 #[.pointer (some ⟨p, 0, none⟩)] w fun e w' => ∃ x : Int, e = .returned (.int .i64 x) /\ (-1 <= x /\ x <= 1114112) /\ Dr code p w w' := by
 have hall : ∀ x ∈ ([0, 9, 10, 31, 32, 34, 92, 126, 127, 128, 2047, 2048, 55295, 55296, 57343, 57344, 65533, 65535, 65536, 1114111, 1114112, -1] : List Int), -1 <= x /\ x <= 1114112 := by decide
 have Hall := Lib.hid hall;clear hall;go_enter Tryz.func251, Tryz.ntmps251
 go_wp2_with fail
 refine (JC code p 5 _ h (by omega)).mono ?_;rintro e w1 ⟨x, rfl, hx0, hx1, -, hd⟩;have hx2 := hx1 (by decide);have hc1 := hd.cur;have hpl := hc1.lt;have HD := Lib.hid hd;clear hd hx1;by_cases q0 : x = 0
 ·subst q0
  go_wp2_with fail
  refine (YB code p ([0, 9, 10, 31, 32, 34, 92, 126, 127, 128, 2047, 2048, 55295, 55296, 57343, 57344, 65533, 65535, 65536, 1114111, 1114112, -1] : List Int) _ w1.heap.size (w1.alloc (.cells #[.int .i64 0, .int .i64 9, .int .i64 10, .int .i64 31, .int .i64 32, .int .i64 34, .int .i64 92, .int .i64 126, .int .i64 127, .int .i64 128, .int .i64 2047, .int .i64 2048, .int .i64 55295, .int .i64 55296, .int .i64 57343, .int .i64 57344, .int .i64 65533, .int .i64 65535, .int .i64 65536, .int .i64 1114111, .int .i64 1114112, .int .i64 (-1)] 3)) (hc1.below (QI (Below.refl _ _))) (XS w1 ([0, 9, 10, 31, 32, 34, 92, 126, 127, 128, 2047, 2048, 55295, 55296, 57343, 57344, 65533, 65535, 65536, 1114111, 1114112, -1] : List Int) (by decide) 3 _ rfl) hpl (by decide) (by decide)).mono ?_
  rintro e w2 ⟨y, rfl, hy, hd2⟩;have HD2 := Lib.hid (HD.out.trans (Dr.cut hd2));have Hy := Lib.hid (Hall.out y hy);clear hy hd2;go_wp2_with fail
  go_ret
  exact ⟨y, rfl, Hy.out, HD2.out⟩
 by_cases q1 : x = 1
 ·subst q1
  go_wp2_with fail
  refine (JC code p 1114112 _ hc1 (by omega)).mono ?_;rintro e w2 ⟨y, rfl, hy0, hy1, -, hd2⟩;have hy2 := hy1 (by decide);have HD2 := Lib.hid (HD.out.trans hd2);clear hd2 hy1;go_wp2_with fail
  go_ret
  exact ⟨y, rfl, ⟨by omega, by omega⟩, HD2.out⟩
 go_wp2_with fail
 refine (JC code p 95 _ hc1 (by omega)).mono ?_;rintro e w2 ⟨y, rfl, hy0, hy1, -, hd2⟩;have hy2 := hy1 (by decide);have HD2 := Lib.hid (HD.out.trans hd2);clear hd2 hy1;go_wp2_with fail
 go_ret
 exact ⟨32 + y, rfl, ⟨by omega, by omega⟩, HD2.out⟩
theorem JfM (code : List UInt8) (p : Nat) (w : World) (h : CurAt code p w) :
  Calls Tryz.prog 146 #[.pointer (some ⟨p, 0, none⟩)] w fun e w' => ∃ x : Int, e = .returned (.int .i64 x) /\ (QA x) /\ Dr code p w w' := by
 have hall : ∀ x ∈ ([0, 1, -1, 9223372036854775807, 9223372036854775806, 4611686018427387904, 4611686018427387903, -9223372036854775808, 3037000499, 3037000500] : List Int), QA x := by unfold QA; decide
 have Hall := Lib.hid hall;clear hall;go_enter Tryz.func146, Tryz.ntmps146
 go_wp2_with fail
 refine (JC code p 5 _ h (by omega)).mono ?_;rintro e w1 ⟨x, rfl, hx0, hx1, -, hd⟩;have hx2 := hx1 (by decide);have hc1 := hd.cur;have hpl := hc1.lt;have HD := Lib.hid hd;clear hd hx1;by_cases q0 : x = 0
 ·subst q0
  go_wp2_with fail
  refine (YB code p ([0, 1, -1, 9223372036854775807, 9223372036854775806, 4611686018427387904, 4611686018427387903, -9223372036854775808, 3037000499, 3037000500] : List Int) _ w1.heap.size (w1.alloc (.cells #[.int .i64 0, .int .i64 1, .int .i64 (-1), .int .i64 9223372036854775807, .int .i64 9223372036854775806, .int .i64 4611686018427387904, .int .i64 4611686018427387903, .int .i64 (-9223372036854775808), .int .i64 3037000499, .int .i64 3037000500] 3)) (hc1.below (QI (Below.refl _ _))) (XS w1 ([0, 1, -1, 9223372036854775807, 9223372036854775806, 4611686018427387904, 4611686018427387903, -9223372036854775808, 3037000499, 3037000500] : List Int) (by decide) 3 _ rfl) hpl (by decide) (by decide)).mono ?_
  rintro e w2 ⟨y, rfl, hy, hd2⟩;have HD2 := Lib.hid (HD.out.trans (Dr.cut hd2));have Hy := Lib.hid (Hall.out y hy);clear hy hd2;go_wp2_with fail
  go_ret
  exact ⟨y, rfl, Hy.out, HD2.out⟩
 by_cases q1 : x = 1
 ·subst q1
  go_wp2_with fail
  refine (JC code p 1000000000 _ hc1 (by omega)).mono ?_;rintro e w2 ⟨y, rfl, hy0, hy1, -, hd2⟩;have hy2 := hy1 (by decide);have hc2 := hd2.cur;have HD2 := Lib.hid (HD.out.trans hd2);clear hd2 hy1;go_wp2_with fail
  refine (JC code p 1000000000 _ hc2 (by omega)).mono ?_;rintro e w3 ⟨z, rfl, hz0, hz1, -, hd3⟩;have hz2 := hz1 (by decide);have HD3 := Lib.hid (HD2.out.trans hd3);clear hd3 hz1;have m0 : 0 <= y * (1 + z) := Int.mul_nonneg hy0 (by omega);have m1 : y * (1 + z) <= 1000000000 * 1000000001 := Int.mul_le_mul (by omega) (by omega) (by omega) (by decide);go_wp2_with fail
  go_ret
  exact ⟨y * (1 + z), rfl, ⟨by omega, by omega⟩, HD3.out⟩
 go_wp2_with fail
 refine (JC code p 5000 _ hc1 (by omega)).mono ?_;rintro e w2 ⟨y, rfl, hy0, hy1, -, hd2⟩;have hy2 := hy1 (by decide);have HD2 := Lib.hid (HD.out.trans hd2);clear hd2 hy1;go_wp2_with fail
 go_ret
 exact ⟨y, rfl, ⟨by omega, by omega⟩, HD2.out⟩
theorem RowE.dr {D : Type} {enc : D -> List Value} {sz ty base : Nat} {w w' : World} {l : List D} {v : Value} {code : List UInt8} {p : Nat} (h : RowE enc sz ty base w l v) (k : Dr code p w w') (hp : p < base) : RowE enc sz ty base w' l v :=
 h.carry (fun q hq => k.block (World.ownsRow.lt h q hq).2 (by have := (World.ownsRow.lt h q hq).1; omega))
theorem Dr.low {code : List UInt8} {p : Nat} {a b c : World} (h : Dr code p a b) (k : Below a.heap.size b c) (hp : p < a.heap.size) : Dr code p a c :=
 ⟨⟨k.os.trans h.aside.os, k.tape.trans h.aside.tape, k.output.trans h.aside.output, Nat.le_trans h.aside.size k.size, fun i hi hn => (k.block i hi).trans (h.aside.block i hi hn)⟩, h.cur.keep (fun i hle => k.block i (Nat.lt_of_le_of_lt hle hp))⟩
def Ji5 (x : Int) : List Value := [.int .i64 x]
theorem Jfa (x : Int) : (Ji5 x).length = 1 := rfl
theorem Jj4 (x : Int) : ∀ v ∈ Ji5 x, v.oneCell' = true := by intro v hv; simp [Ji5] at hv; rw [hv]; rfl
theorem JlQ (x : Int) (es : List Value) (h : Jch x es) : es = Ji5 x := h
theorem Dr.up {code : List UInt8} {p B : Nat} {a b c : World} (h : Dr code p a b) (k : Below B b c) (hp : p < B) (hB : a.heap.size = B := by rfl) : Dr code p a c := by
 subst hB;exact h.low k hp
theorem JjL {w : World} {base k c : Nat} {A : Option Addr} {l : List Int} (h : RowE Ji5 1 3 base w l (.slice A k c)) : SlOf Jch 1 0 w.heap.size w l (.slice A k c) := by
 have h1 := h.sl Jfa (C := Jch) (fun d _ => rfl);exact SlOf.keep h1 (fun _ _ _ _ => rfl) (Nat.zero_le _) (Nat.le_refl _) (fun _ _ _ h => h)
theorem Jh4 (code : List UInt8) (p most : Nat) (w : World) (h : CurAt code p w) (hm : most <= 100) :
  Calls Tryz.prog 214 #[.pointer (some ⟨p, 0, none⟩), .int .i64 most] w fun e w' => ∃ l : List Int, e = .returned (.string ⟨(Zw l).toArray⟩) /\ l.length <= most /\ Dr code p w w' := by
 have hpl := h.lt;obtain ⟨i0, hi, hz0, hz1, hz2⟩ := info_parts (show (Tryz.prog.info? 3).map (fun i => (i.zero, i.size, i.bytes)) = some (some (.int .i64 0), 1, 8) from by kernel_rfl);have H0 := hid h;go_enter Tryz.func214, Tryz.ntmps214
 go_wp2_with fail
 go_loopw [5, 6] (fun s i wr => ∃ (k : Nat) (l : List Int), k <= most /\ l.length = k /\ i = .int .i64 k /\ RowE Ji5 1 3 w.heap.size wr l s /\ (∀ x ∈ l, -1 <= x /\ x <= 1114112) /\ Dr code p w wr) (fun _ i _ => most - (intOf i).toNat)
 case atStart => exact ⟨0, [], Nat.zero_le _, rfl, rfl, JV rfl (Nat.le_refl _), fun x hx => (by cases hx), Dr.alloc (Dr.refl H0.out) _⟩
 case round =>
  obtain ⟨k, l, hk, hl, rfl, hR, hA, hd⟩ := hrel;obtain ⟨A, c, rfl⟩ := hR.form;rw [hl] at hR;have HR := hid hR;have HA := hid hA;have HD := hid hd;have hws := hd.size;have HL := hid hl;clear hR hA hd;go_wp2_with fail
  refine (JC code p ((most : Int) + 1) _ HD.out.cur (by omega)).mono ?_;rintro e w2 ⟨x, rfl, hx0, hx1, -, hd2⟩;have hx2 := hx1 (by omega);have HD2 := hid (HD.out.trans hd2);have HR2 := hid (HR.out.dr hd2 hpl);have hw2 := HD2.out.size;clear hd2 hx1;by_cases hlt : (k : Int) < x
  ·have hltd : decide ((k : Int) < x) = true := JmG hlt
   go_wp2_with fail
   refine (JiP code p _ HD2.out.cur).mono ?_;rintro e w3 ⟨y, rfl, hy, hd3⟩;have HY := hid hy;have HD3 := hid (HD2.out.trans hd3);have HR3 := hid (HR2.out.dr hd3 hpl);have hw3 := HD3.out.size;clear hd3 hy;go_wp2_with (at_builtin; go_loud (refine QK (C := Jch) rfl (.tmp 16) (.tmp 19) 132 rfl w.heap.size 3 i0 (.int .i64 0) 1 8 Tryz.underlying132 hi hz0 hz1 hz2 rfl (by decide) Jfa Jj4 JlQ _ k l rfl HL.out (HR3.out.below Jj) [y] (some ⟨_, 0, none⟩) 1 1 _ _ rfl rfl (XS w3 [y] (by simp) 3 _ rfl) (by unfold maxLen; omega) (by omega) (by simp; omega) ?_))
   intro v' w4 hR4 hg4 ha4;obtain ⟨A4, c4, rfl⟩ := hR4.form;have hb4 : Below w.heap.size w3 w4 := Below.grown ((Jj : Below w3.heap.size w3 _).mono hw3) hg4 (by simp; omega) (fun q hq => (World.ownsRow.lt HR3.out q hq).1);have HR4 := hid hR4;have HD4 := hid (HD3.out.up hb4 hpl);have hln : (l ++ [y]).length = k + 1 := by rw [List.length_append, HL.out]; rfl
   have HLn := hid hln;rw [hln];clear hR4 hg4 ha4 hb4 hln;go_wp2_with fail
   go_roundw
   case rel => exact ⟨k + 1, l ++ [y], by omega, HLn.out, by go_num, by first | exact HR4.out | (rw [<- HLn.out]; exact HR4.out), fun z hz => by rcases List.mem_append.1 hz with hz | hz; exact HA.out z hz; (simp at hz; rw [hz]; exact HY.out), HD4.out⟩
   case measure => first | omega | (simp [Lib.intOf]; omega) | (simp [intOf]; omega)
  have hltd : decide ((k : Int) < x) = false := JmF hlt;go_wp2_with fail
  refine (Jad l _ w2 0 (JjL HR2.out) (fun z hz => by have := HA.out z hz; omega) (by have := HL.out; omega)).mono ?_;rintro e w5 ⟨rfl, hb5⟩;have HD5 := hid (HD2.out.step hb5);clear hb5;go_wp2_with fail
  go_ret
  exact ⟨l, rfl, by have := HL.out; omega, HD5.out⟩
theorem YT (code : List UInt8) (p : Nat) (w : World) (h : CurAt code p w) :
  Calls Tryz.prog 147 #[.pointer (some ⟨p, 0, none⟩)] w fun e w' => ∃ s : ByteArray, e = .returned (.string s) /\ WordOk s /\ Dr code p w w' := by
 have HA := hid (Jdu (L := ([⟨#[]⟩, ⟨#[110, 117, 108, 108]⟩, ⟨#[116, 114, 117, 101]⟩, ⟨#[126]⟩, ⟨#[45]⟩, ⟨#[45, 32, 97]⟩, ⟨#[97, 58, 32, 98]⟩, ⟨#[97, 32, 35, 98]⟩, ⟨#[49, 50]⟩, ⟨#[45, 48]⟩, ⟨#[48, 48, 55]⟩, ⟨#[120, 10, 121]⟩, ⟨#[32, 97]⟩, ⟨#[97, 32]⟩, ⟨#[34, 113, 34]⟩, ⟨#[91]⟩, ⟨#[123, 125]⟩, ⟨#[107, 58]⟩, ⟨#[35]⟩, ⟨#[53, 48, 48, 109]⟩, ⟨#[50, 71, 105]⟩] : List ByteArray)) (by decide));have HB := hid (Jdu (L := ([⟨#[97]⟩, ⟨#[98]⟩, ⟨#[110, 97, 109, 101]⟩, ⟨#[107, 105, 110, 100]⟩, ⟨#[120, 45, 121]⟩, ⟨#[108, 97, 98, 101, 108, 115]⟩] : List ByteArray)) (by decide))
 go_enter Tryz.func147, Tryz.ntmps147
 go_wp2_with fail
 refine (JC code p 4 _ h (by omega)).mono ?_;rintro e w1 ⟨x, rfl, hx0, hx1, -, hd⟩;have hx2 := hx1 (by decide);have hc1 := hd.cur;have hpl := hc1.lt;have HD := hid hd;clear hd hx1;by_cases q0 : x = 0
 ·subst q0
  go_wp2_with fail
  refine (Jh4 code p 5 _ hc1 (by decide)).mono ?_;rintro e w2 ⟨l, rfl, hl, hd2⟩;have HD2 := hid (HD.out.trans hd2);have HL := hid (Jgm hl);clear hd2 hl;go_wp2_with fail
  go_ret
  exact ⟨_, rfl, HL.out, HD2.out⟩
 by_cases q1 : x = 1
 focus
  subst q1;go_wp2_with fail
  refine (Wi code p ([⟨#[]⟩, ⟨#[110, 117, 108, 108]⟩, ⟨#[116, 114, 117, 101]⟩, ⟨#[126]⟩, ⟨#[45]⟩, ⟨#[45, 32, 97]⟩, ⟨#[97, 58, 32, 98]⟩, ⟨#[97, 32, 35, 98]⟩, ⟨#[49, 50]⟩, ⟨#[45, 48]⟩, ⟨#[48, 48, 55]⟩, ⟨#[120, 10, 121]⟩, ⟨#[32, 97]⟩, ⟨#[97, 32]⟩, ⟨#[34, 113, 34]⟩, ⟨#[91]⟩, ⟨#[123, 125]⟩, ⟨#[107, 58]⟩, ⟨#[35]⟩, ⟨#[53, 48, 48, 109]⟩, ⟨#[50, 71, 105]⟩] : List ByteArray) _ w1.heap.size (w1.alloc (.cells #[.string ⟨#[]⟩, .string ⟨#[110, 117, 108, 108]⟩, .string ⟨#[116, 114, 117, 101]⟩, .string ⟨#[126]⟩, .string ⟨#[45]⟩, .string ⟨#[45, 32, 97]⟩, .string ⟨#[97, 58, 32, 98]⟩, .string ⟨#[97, 32, 35, 98]⟩, .string ⟨#[49, 50]⟩, .string ⟨#[45, 48]⟩, .string ⟨#[48, 48, 55]⟩, .string ⟨#[120, 10, 121]⟩, .string ⟨#[32, 97]⟩, .string ⟨#[97, 32]⟩, .string ⟨#[34, 113, 34]⟩, .string ⟨#[91]⟩, .string ⟨#[123, 125]⟩, .string ⟨#[107, 58]⟩, .string ⟨#[35]⟩, .string ⟨#[53, 48, 48, 109]⟩, .string ⟨#[50, 71, 105]⟩] 9)) (hc1.below (QI (Below.refl _ _))) (Jah w1 ([⟨#[]⟩, ⟨#[110, 117, 108, 108]⟩, ⟨#[116, 114, 117, 101]⟩, ⟨#[126]⟩, ⟨#[45]⟩, ⟨#[45, 32, 97]⟩, ⟨#[97, 58, 32, 98]⟩, ⟨#[97, 32, 35, 98]⟩, ⟨#[49, 50]⟩, ⟨#[45, 48]⟩, ⟨#[48, 48, 55]⟩, ⟨#[120, 10, 121]⟩, ⟨#[32, 97]⟩, ⟨#[97, 32]⟩, ⟨#[34, 113, 34]⟩, ⟨#[91]⟩, ⟨#[123, 125]⟩, ⟨#[107, 58]⟩, ⟨#[35]⟩, ⟨#[53, 48, 48, 109]⟩, ⟨#[50, 71, 105]⟩] : List ByteArray) (fun s hs => Nat.le_trans (HA.out s hs).2 (by decide)) (by decide) 9 _ rfl) hpl (by decide) (by decide)).mono ?_
  rintro e w2 ⟨s, rfl, hs, hd2⟩;have HD2 := hid (HD.out.trans (Dr.cut hd2));have Hs := hid (HA.out s hs)
 rotate_left
 focus
  go_wp2_with fail
  refine (Wi code p ([⟨#[97]⟩, ⟨#[98]⟩, ⟨#[110, 97, 109, 101]⟩, ⟨#[107, 105, 110, 100]⟩, ⟨#[120, 45, 121]⟩, ⟨#[108, 97, 98, 101, 108, 115]⟩] : List ByteArray) _ w1.heap.size (w1.alloc (.cells #[.string ⟨#[97]⟩, .string ⟨#[98]⟩, .string ⟨#[110, 97, 109, 101]⟩, .string ⟨#[107, 105, 110, 100]⟩, .string ⟨#[120, 45, 121]⟩, .string ⟨#[108, 97, 98, 101, 108, 115]⟩] 9)) (hc1.below (QI (Below.refl _ _))) (Jah w1 ([⟨#[97]⟩, ⟨#[98]⟩, ⟨#[110, 97, 109, 101]⟩, ⟨#[107, 105, 110, 100]⟩, ⟨#[120, 45, 121]⟩, ⟨#[108, 97, 98, 101, 108, 115]⟩] : List ByteArray) (fun s hs => Nat.le_trans (HB.out s hs).2 (by decide)) (by decide) 9 _ rfl) hpl (by decide) (by decide)).mono ?_
  rintro e w2 ⟨s, rfl, hs, hd2⟩;have HD2 := hid (HD.out.trans (Dr.cut hd2));have Hs := hid (HB.out s hs)
 rotate_left
 all_goals
  clear hd2 hs;go_wp2_with fail
  go_ret
  exact ⟨s, rfl, Hs.out, HD2.out⟩
end Go.Proofs.YtohcpifekcehjaaGreatDoor
