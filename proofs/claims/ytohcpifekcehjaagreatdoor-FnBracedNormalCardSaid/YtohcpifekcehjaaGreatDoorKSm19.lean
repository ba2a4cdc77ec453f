/- Steps to FnBracedNormal. No conditions. -/
import Derived.Test.YtohcpifekcehjaaGreatDoorKSm18
import Derived.Test.YtohcpifekcehjaaGreatDoorKSm13
import Derived.Test.YtohcpifekcehjaaGreatDoorKSm6
import Derived.Test.YtohcpifekcehjaaGreatDoorKSm1
import Derived.Test.YtohcpifekcehjaaGreatDoorKSm10
import Derived.Deep.CutRange
import Derived.Deep.RegionHeld3
import Derived.Test.YtohcpifekcehjaaGreatDoorKSm15
import Derived.Test.YtohcpifekcehjaaGreatDoorKSm14
import Derived.Lib.ConvBytes
set_option maxHeartbeats 16000000
set_option maxRecDepth 20000
namespace Go.Proofs.YtohcpifekcehjaaGreatDoor
open Go.RowKit Go.Lib
def brN (s : ByteArray) : ByteArray × Flt := if (readB s).1.code = 0 then (bracedB 10 (readB s).2, flt0) else (⟨#[]⟩, (readB s).1)
theorem readB_flt (s : ByteArray) (h : (readB s).1.code = 0) : (readB s).1 = flt0 := by
 by_cases hf : (signsF s).2.code = 0
 ·have h2 := readJ_good (signsF s).1 s.size (2 * (signsF s).1.length + 4) (.value 1) 0 0 (Nat.zero_le _) (Nat.zero_le _) (by unfold needJ; simp only; omega)
  rcases hq : readJ (signsF s).1 s.size (2 * (signsF s).1.length + 4) (.value 1) 0 0 with f | ⟨t, p, m⟩
  ·rw [hq] at h2
   rw [readB_bad hf hq] at h
   exact absurd h h2
  ·by_cases hp : p < (signsF s).1.length
   ·rw [readB_more hf hq hp] at h
    exact absurd (show (4 : Int) = 0 from h) (by decide)
   ·rw [readB_good hf hq hp]
 ·rw [readB_sign hf] at h
  exact absurd h hf
theorem size_cnt : ∀ (n : Nat) (d : TreeD), sizeT n d <= cntT n d + 1
 | 0, d => by unfold sizeT; omega
 | n + 1, d => by
  have h : ∀ l : List TreeD, szL (sizeT n) l <= cntL n l := by
   intro l
   induction l with
   | nil => exact Nat.zero_le _
   | cons x l ih =>
    have h1 := size_cnt n x
    have h2 : cntL n (x :: l) = (4 + cntT n x) + cntL n l := rfl
    simp only [szL]
    omega
  rw [sizeT_succ, cntT_succ]
  have := h d.kids
  omega
theorem size_readB (s : ByteArray) : sizeT 10 (readB s).2 <= 1073741824 := by
 have h1 := size_cnt 10 (readB s).2
 have h2 := cnt_readB s
 omega
theorem c_impl_BracedNormal (s : ByteArray) (w : World) (hs : s.size <= 1048576) (hP : Pow w) (hE : ErrR w) (hT : Tabs w) (hV : CTab w) :
  Calls Tryz.prog 36 #[.string s] w fun e w' => e = .returned (.tuple #[.string (brN s).1, .agg (fltC (brN s).2)]) /\ Below w.heap.size w w' := by
 have hz := size_readB s
 have HF := hid (show brN s = if (readB s).1.code = 0 then (bracedB 10 (readB s).2, flt0) else (⟨#[]⟩, (readB s).1) from rfl)
 have hf0 := readB_flt s
 have HI := hid (fun (w' : World) (h : Below w.heap.size w w') => c_impl_ReadBraced s w' hs (hV.below h) (hT.below h) (hE.below h))
 obtain ⟨r, hr⟩ : ∃ r, r = readB s := ⟨_, rfl⟩
 rw [<- hr] at HI HF hz hf0
 obtain ⟨b, hb⟩ : ∃ b, b = brN s := ⟨_, rfl⟩
 rw [<- hb] at HF ⊢
 clear hr hb
 obtain ⟨⟨fc, fa, fp⟩, t⟩ := r
 simp only at HF hz hf0
 have hrf : fltC (⟨fc, fa, fp⟩ : Flt) = #[.int .i64 fc, .int .i64 fa, .string fp] := rfl
 go_enter Tryz.func36, Tryz.ntmps36
 go_wp2_with fail
 refine (HI.out _ bel).mono ?_
 rintro e w1 ⟨cs, rfl, hO1, hb1⟩
 have HC1 := hid (hO1.toC (fun _ h => h))
 obtain ⟨U4, u44, U5, u55, rfl, -⟩ := hO1.flat
 simp only [hrf]
 clear hO1 hrf
 have X0 : w1.heap[w.heap.size]? = some (.cells #[.int .i64 0, .int .i64 0, .string ⟨#[]⟩] 23 (0, 0)) := (hb1.block _ (by simp)).trans (heap_at rfl)
 have hb01 : Below w.heap.size w w1 := Below.trans bel (hb1.mono (by simp))
 have l0 := row_lt X0
 have HX0 := hid X0
 have HB01 := hid hb01
 clear hb1 X0 hb01
 go_upto_region 2 with fail
 obtain ⟨w2, hw2⟩ : ∃ W, W = (w1.alloc (.cells #[.int .i64 t.kind, .bool t.flag, .int .i64 t.num, .string t.text, .slice U4 t.keys.length u44, .slice U5 t.kids.length u55] 34)).alloc (.cells #[.int .i64 fc, .int .i64 fa, .string fp] 23) := ⟨_, rfl⟩
 have hb2 : Below w1.heap.size w1 w2 := by rw [hw2]; exact bel
 have X1 : w2.heap[w1.heap.size]? = some (.cells #[.int .i64 t.kind, .bool t.flag, .int .i64 t.num, .string t.text, .slice U4 t.keys.length u44, .slice U5 t.kids.length u55] 34 (0, 0)) := by rw [hw2]; exact (Below.heap_alloc _ _ _ (by simp)).trans (heap_at rfl)
 have X2 : w2.heap[w1.heap.size + 1]? = some (.cells #[.int .i64 fc, .int .i64 fa, .string fp] 23 (0, 0)) := by rw [hw2]; exact heap_at (by simp)
 rw [<- hw2]
 have s2 := hb2.size
 have HX1 := hid X1
 have HX2 := hid X2
 have HX02 := hid ((hb2.block _ l0).trans HX0.out)
 have HB02 := hid (HB01.out.trans (hb2.mono HB01.out.size))
 have hz01 := HB01.out.size
 have HC2 := hid ((HC1.out.keep (same_below hb2) (Nat.zero_le _) hb2.size : C_Tree 10 0 w2.heap.size w2 t _))
 have l1 := row_lt X1
 have l2 := row_lt X2
 obtain ⟨x0, x1, x2, x3, x4, x5, xf⟩ := row6 X1
 obtain ⟨y0, y1, y2, yf⟩ := row3 X2
 obtain ⟨z0, z1, z2, zf⟩ := row3 HX02.out
 have l02 := row_lt HX02.out
 clear hw2 hb2 X1 X2 HC1 HX0 HB01
 have q1 : (fc == 0) = false ∨ (fc == 0) = true := by rcases (fc == 0) with _ | _ <;> simp
 rcases q1 with q1 | q1
 ·have hne : fc ≠ 0 := fun e => by rw [e] at q1; cases q1
  have HX := hid (show b = (⟨#[]⟩, ⟨fc, fa, fp⟩) by rw [HF.out, if_neg hne])
  clear hne hf0
  go_upto_region 3 with fail
  go_region_law fail
  go_wp2_with fail
  have hb2 := HB02.out
  all_goals exact bodyPost_ret (v := .tuple #[.string ⟨#[]⟩, .agg #[.int .i64 fc, .int .i64 fa, .string fp]]) (by simp only [results, Tryz.results36]; go_simp) rfl ⟨by rw [HX.out]; rfl, bel⟩
 ·have he : fc = 0 := by simpa using q1
  have HX := hid (show b = (bracedB 10 t, flt0) by rw [HF.out, if_pos he])
  have h0 := hf0 he
  unfold flt0 at h0
  injection h0 with e1 e2 e3
  subst e1 e2 e3
  clear hf0 he
  have HT := hid (fun (w' : World) (h : Below w2.heap.size w2 w') => c_impl_BracedText 10 t _ w' 0 (HC2.out.now h) hz (hT.below (HB02.out.trans (h.mono HB02.out.size))) (hP.below (HB02.out.trans (h.mono HB02.out.size))))
  go_wp2_with fail
  refine (HT.out _ bel).mono ?_
  rintro e w3 ⟨rfl, hb3⟩
  have h23 : Below w2.heap.size w2 w3 := Below.trans bel (hb3.mono (by simp))
  have h03 := HB02.out.trans (h23.mono HB02.out.size)
  have X0 := (h23.block _ l02).trans HX02.out
  have X2 := (h23.block _ l2).trans HX2.out
  obtain ⟨u0, u1, u2, uf⟩ := row3 X2
  obtain ⟨v0, v1, v2, vf⟩ := row3 X0
  have l03 := row_lt X0
  have l23 := row_lt X2
  clear y0 y1 y2 yf z0 z1 z2 zf x0 x1 x2 x3 x4 x5 xf
  go_wp2_with fail
  have hb2 := HB02.out
  all_goals exact bodyPost_ret (v := .tuple #[.string (bracedB 10 t), .agg #[.int .i64 0, .int .i64 0, .string ⟨#[]⟩]]) (by simp only [results, Tryz.results36]; go_simp) rfl ⟨by rw [HX.out]; rfl, bel⟩
open Go.RowKit
def eqTr : Nat -> TreeD -> TreeD -> Bool
 | 0, _, _ => false
 | n + 1, a, b => (a.kind == b.kind) && (a.flag == b.flag) && (a.num == b.num) && (a.text.toList == b.text.toList) && eqL eqStr a.keys b.keys && eqL (eqTr n) a.kids b.kids
theorem eqTr_succ (n : Nat) (a b : TreeD) : eqTr (n + 1) a b = ((a.kind == b.kind) && (a.flag == b.flag) && (a.num == b.num) && (a.text.toList == b.text.toList) && eqL eqStr a.keys b.keys && eqL (eqTr n) a.kids b.kids) := rfl
def T_sameI (n : Nat) : Prop := ∀ (a b : TreeD) (ca cb : List Value) (w : World) (lo lo' : Nat), C_Tree n lo w.heap.size w a ca -> C_Tree n lo' w.heap.size w b cb ->
  Calls Tryz.prog 78 #[.agg ca.toArray, .agg cb.toArray] w fun e w' => e = .returned (.bool (eqTr n a b)) /\ Below w.heap.size w w'
theorem c_EqualFunc_Tree (n : Nat) (ih : T_sameI n) (l m : List TreeD) (va vb : Value) (w : World) (lo lo' : Nat) (ha : Sl_Tree n lo w.heap.size w l va) (hb : Sl_Tree n lo' w.heap.size w m vb) :
  Calls Tryz.prog 144 #[va, vb, .func (.func 78) #[] #[]] w fun e w' => e = .returned (.bool (eqL (eqTr n) l m)) /\ Below w.heap.size w w' := by
 obtain ⟨A, c, rfl, hlc, hc, hA⟩ := ha
 obtain ⟨B, c', rfl, hlc', hc', hB⟩ := hb
 by_cases hlen : l.length = m.length
 ·have hz : ((l.length : Int) != m.length) = false := by simp [hlen]
  have Hlen := Lib.hid hlen
  clear hlen
  go_enter Tryz.func144, Tryz.ntmps144
  go_wp2_with fail
  go_loopw [17] (fun i wr => ∃ k : Nat, k <= l.length /\ i = .int .i64 k /\ allR k (eqAt (eqTr n) l m) = true /\ Below w.heap.size w wr) (fun i _ => l.length - (intOf i).toNat)
  case atStart => exact ⟨0, Nat.zero_le _, rfl, rfl, bel⟩
  case round =>
   obtain ⟨k, hk, rfl, hall, hbr⟩ := hrel
   have Hall := Lib.hid hall
   clear hall
   by_cases hlt : k < l.length
   ·obtain ⟨b, o, rfl, -, hbl, hcell⟩ := hA (by omega)
    obtain ⟨b', o', rfl, -, hbl', hcell'⟩ := hB (by have := Hlen.out; omega)
    obtain ⟨d, hd⟩ := exists_at hlt
    obtain ⟨d', hd'⟩ := exists_at (show k < m.length by have := Hlen.out; omega)
    obtain ⟨es, -, hcs, hC⟩ := hcell k d hd
    obtain ⟨es', -, hcs', hD⟩ := hcell' k d' hd'
    obtain ⟨eA4, ec4, eA5, ec5, rfl, ea0, ea2, ea3⟩ := hC.flat
    obtain ⟨fA4, fc4, fA5, fc5, rfl, fa0, fa2, fa3⟩ := hD.flat
    have hc0 := (hbr.cell (p := ⟨b, o + k * 6 + 0, none⟩) (by simp; omega)).trans (hcs 0 (by omega))
    simp at hc0
    have hc1 := (hbr.cell (p := ⟨b, o + k * 6 + 1, none⟩) (by simp; omega)).trans (hcs 1 (by omega))
    simp at hc1
    have hc2 := (hbr.cell (p := ⟨b, o + k * 6 + 2, none⟩) (by simp; omega)).trans (hcs 2 (by omega))
    simp at hc2
    have hc3 := (hbr.cell (p := ⟨b, o + k * 6 + 3, none⟩) (by simp; omega)).trans (hcs 3 (by omega))
    simp at hc3
    have hc4 := (hbr.cell (p := ⟨b, o + k * 6 + 4, none⟩) (by simp; omega)).trans (hcs 4 (by omega))
    simp at hc4
    have hc5 := (hbr.cell (p := ⟨b, o + k * 6 + 5, none⟩) (by simp; omega)).trans (hcs 5 (by omega))
    simp at hc5
    have hd0 := (hbr.cell (p := ⟨b', o' + k * 6 + 0, none⟩) (by simp; omega)).trans (hcs' 0 (by omega))
    simp at hd0
    have hd1 := (hbr.cell (p := ⟨b', o' + k * 6 + 1, none⟩) (by simp; omega)).trans (hcs' 1 (by omega))
    simp at hd1
    have hd2 := (hbr.cell (p := ⟨b', o' + k * 6 + 2, none⟩) (by simp; omega)).trans (hcs' 2 (by omega))
    simp at hd2
    have hd3 := (hbr.cell (p := ⟨b', o' + k * 6 + 3, none⟩) (by simp; omega)).trans (hcs' 3 (by omega))
    simp at hd3
    have hd4 := (hbr.cell (p := ⟨b', o' + k * 6 + 4, none⟩) (by simp; omega)).trans (hcs' 4 (by omega))
    simp at hd4
    have hd5 := (hbr.cell (p := ⟨b', o' + k * 6 + 5, none⟩) (by simp; omega)).trans (hcs' 5 (by omega))
    simp at hd5
    have hbr1 := Nat.lt_of_lt_of_le hbl hbr.size
    have hbr2 := Nat.lt_of_lt_of_le hbl' hbr.size
    have hbs := hbr.size
    have hk0 : (0 : Int) <= k := by omega
    have hk1 : (k : Int) < l.length := by omega
    have hk2 : (k : Int) < m.length := by have := Hlen.out; omega
    have He := Lib.hid (eqAt_eq (eqTr n) l m k d d' hd hd')
    clear hcs hcell hA hcs' hcell' hB hd hd'
    rcases q0 : eqTr n d d' with _ | _
    ·have Hbad := Lib.hid (show eqAt (eqTr n) l m k = false by rw [He.out, q0])
     go_wp2_with (go_at_call 78; refine (ih d d' _ _ _ _ _ (hC.now bel) (hD.now bel)).mono ?_; rintro e w1 ⟨rfl, hb⟩; (first | (have hcu2 := Cum.join hcu hb; (try clear hcu); (try clear hc); (try clear hfz); (try clear hsz); (try clear hs0); (try clear hs1); (try clear hs2); (try clear hs3); (try clear hs4); ) | have hcu2 := Cum.mk hb); have hcu := hcu2; clear hcu2; obtain ⟨hc, hfz⟩ := bcell hcu.h; have hsz := hcu.h.size; (try simp at hsz); (try have hs0 := lt_of_succ_le hsz); (try (have hs1 := lt_pred hsz; (try (have hs2 := lt_pred hs1; (try (have hs3 := lt_pred hs2; (try have hs4 := lt_pred hs3))))))))
     have Hf := eqL_bad (eqTr n) l m k hlt Hbad.out
     go_ret
     exact ⟨ret_bool Hf.symm, bel⟩
    ·have Hn := Lib.hid (show allR (k + 1) (eqAt (eqTr n) l m) = true by rw [allR_succ, Hall.out, He.out, q0]; rfl)
     go_wp2_with (go_at_call 78; refine (ih d d' _ _ _ _ _ (hC.now bel) (hD.now bel)).mono ?_; rintro e w1 ⟨rfl, hb⟩; (first | (have hcu2 := Cum.join hcu hb; (try clear hcu); (try clear hc); (try clear hfz); (try clear hsz); (try clear hs0); (try clear hs1); (try clear hs2); (try clear hs3); (try clear hs4); ) | have hcu2 := Cum.mk hb); have hcu := hcu2; clear hcu2; obtain ⟨hc, hfz⟩ := bcell hcu.h; have hsz := hcu.h.size; (try simp at hsz); (try have hs0 := lt_of_succ_le hsz); (try (have hs1 := lt_pred hsz; (try (have hs2 := lt_pred hs1; (try (have hs3 := lt_pred hs2; (try have hs4 := lt_pred hs3))))))))
     go_roundw
     case rel => exact ⟨k + 1, by omega, by go_num, Hn.out, bel⟩
     case measure => simp [intOf]; omega
   ·obtain rfl : k = l.length := by omega
    clear hA hB
    go_wp2_with fail
    go_ret
    exact ⟨ret_bool (eqL_all (eqTr n) l m Hlen.out Hall.out).symm, bel⟩
 ·have hz : ((l.length : Int) != m.length) = true := bne_iff_ne.2 (by omega)
  go_enter Tryz.func144, Tryz.ntmps144
  go_wp2_with fail
  go_ret
  exact ⟨ret_bool (eqL_len (eqTr n) l m hlen).symm, bel⟩
theorem of_sameI (n : Nat) (ih : T_sameI n) : T_sameI (n + 1) := by
 intro a b ca cb w lo lo' h h'
 obtain ⟨v4, v5, rfl, a0, a2, a3, a4, a5⟩ := C_Tree.out h
 obtain ⟨A4, c4, rfl⟩ := a4.form
 obtain ⟨A5, c5, rfl⟩ := a5.form
 obtain ⟨zv4, zv5, rfl, za0, za2, za3, za4, za5⟩ := C_Tree.out h'
 obtain ⟨zA4, zc4, rfl⟩ := za4.form
 obtain ⟨zA5, zc5, rfl⟩ := za5.form
 have Hf := Lib.hid (eqTr_succ n a b)
 clear h h'
 rcases q1 : (a.kind == b.kind) with _ | _
 ·rw [q1] at Hf; simp only [Bool.false_and] at Hf
  go_enter Tryz.func78, Tryz.ntmps78
  go_wp2_with fail
  go_ret
  exact ⟨ret_bool Hf.out.symm, bel⟩
 rcases q2 : (a.flag == b.flag) with _ | _
 ·rw [q1, q2] at Hf; simp only [Bool.false_and, Bool.and_false] at Hf
  go_enter Tryz.func78, Tryz.ntmps78
  go_wp2_with fail
  go_ret
  exact ⟨ret_bool Hf.out.symm, bel⟩
 rcases q3 : (a.num == b.num) with _ | _
 ·rw [q1, q2, q3] at Hf; simp only [Bool.false_and, Bool.and_false] at Hf
  go_enter Tryz.func78, Tryz.ntmps78
  go_wp2_with fail
  go_ret
  exact ⟨ret_bool Hf.out.symm, bel⟩
 rcases q4 : (a.text.toList == b.text.toList) with _ | _
 ·rw [q1, q2, q3, q4] at Hf; simp only [Bool.false_and, Bool.and_false] at Hf
  go_enter Tryz.func78, Tryz.ntmps78
  go_wp2_with fail
  go_ret
  exact ⟨ret_bool Hf.out.symm, bel⟩
 rcases q5 : eqL eqStr a.keys b.keys with _ | _
 ·rw [q1, q2, q3, q4, q5] at Hf; simp only [Bool.false_and, Bool.and_false] at Hf
  have HE := Lib.hid (fun (w' : World) (hb : Below w.heap.size w w') => c_Equal_Str a.keys b.keys _ _ w' lo lo' (a4.now hb) (za4.now hb))
  rw [q5] at HE
  go_enter Tryz.func78, Tryz.ntmps78
  go_wp2_with (go_at_call 143; refine (HE.out _ bel).mono ?_; rintro e w1 ⟨rfl, hb⟩; (first | (have hcu2 := Cum.join hcu hb; (try clear hcu); (try clear hc); (try clear hfz); (try clear hsz); (try clear hs0); (try clear hs1); (try clear hs2); (try clear hs3); (try clear hs4); ) | have hcu2 := Cum.mk hb); have hcu := hcu2; clear hcu2; obtain ⟨hc, hfz⟩ := bcell hcu.h; have hsz := hcu.h.size; (try simp at hsz); (try have hs0 := lt_of_succ_le hsz); (try (have hs1 := lt_pred hsz; (try (have hs2 := lt_pred hs1; (try (have hs3 := lt_pred hs2; (try have hs4 := lt_pred hs3))))))))
  go_ret
  exact ⟨ret_bool Hf.out.symm, bel⟩
 ·rw [q1, q2, q3, q4, q5] at Hf; simp only [Bool.true_and] at Hf
  have HE := Lib.hid (fun (w' : World) (hb : Below w.heap.size w w') => c_Equal_Str a.keys b.keys _ _ w' lo lo' (a4.now hb) (za4.now hb))
  have HF := Lib.hid (fun (w' : World) (hb : Below w.heap.size w w') => c_EqualFunc_Tree n ih a.kids b.kids _ _ w' lo lo' (a5.now hb) (za5.now hb))
  rw [q5] at HE
  obtain ⟨z, hz⟩ : ∃ z, z = eqL (eqTr n) a.kids b.kids := ⟨_, rfl⟩
  rw [<- hz] at Hf HF
  clear hz
  go_enter Tryz.func78, Tryz.ntmps78
  go_wp2_with (first | (go_at_call 143; refine (HE.out _ bel).mono ?_; rintro e w1 ⟨rfl, hb⟩; (first | (have hcu2 := Cum.join hcu hb; (try clear hcu); (try clear hc); (try clear hfz); (try clear hsz); (try clear hs0); (try clear hs1); (try clear hs2); (try clear hs3); (try clear hs4); ) | have hcu2 := Cum.mk hb); have hcu := hcu2; clear hcu2; obtain ⟨hc, hfz⟩ := bcell hcu.h; have hsz := hcu.h.size; (try simp at hsz); (try have hs0 := lt_of_succ_le hsz); (try (have hs1 := lt_pred hsz; (try (have hs2 := lt_pred hs1; (try (have hs3 := lt_pred hs2; (try have hs4 := lt_pred hs3)))))))) | (go_at_call 144; refine (HF.out _ bel).mono ?_; rintro e w1 ⟨rfl, hb⟩; (first | (have hcu2 := Cum.join hcu hb; (try clear hcu); (try clear hc); (try clear hfz); (try clear hsz); (try clear hs0); (try clear hs1); (try clear hs2); (try clear hs3); (try clear hs4); ) | have hcu2 := Cum.mk hb); have hcu := hcu2; clear hcu2; obtain ⟨hc, hfz⟩ := bcell hcu.h; have hsz := hcu.h.size; (try simp at hsz); (try have hs0 := lt_of_succ_le hsz); (try (have hs1 := lt_pred hsz; (try (have hs2 := lt_pred hs1; (try (have hs3 := lt_pred hs2; (try have hs4 := lt_pred hs3)))))))))
  go_ret
  exact ⟨ret_bool Hf.out.symm, bel⟩
theorem all_sameI : ∀ n, T_sameI n
 | 0 => fun _ _ _ _ _ _ _ h _ => (C_Tree.none h).elim
 | n + 1 => of_sameI n (all_sameI n)
def T_sameS (n : Nat) : Prop := ∀ (a b : TreeD) (ca cb : List Value) (w : World) (lo lo' : Nat), C_Tree n lo w.heap.size w a ca -> C_Tree n lo' w.heap.size w b cb ->
  Calls Tryz.prog 20 #[.agg ca.toArray, .agg cb.toArray] w fun e w' => e = .returned (.bool (eqTr n a b)) /\ Below w.heap.size w w'
theorem ne_of {α : Type} [BEq α] {x y : α} {q : Bool} (h : (x == y) = q) : (x != y) = !q := by unfold bne; rw [h]
theorem of_sameS (n : Nat) (ih : T_sameS n) : T_sameS (n + 1) := by
 intro a b ca cb w lo lo' h h'
 obtain ⟨v4, v5, rfl, a0, a2, a3, a4, a5⟩ := C_Tree.out h
 obtain ⟨zv4, zv5, rfl, za0, za2, za3, za4, za5⟩ := C_Tree.out h'
 obtain ⟨A4, c4, rfl, hlc, hcc, hA⟩ := a4
 obtain ⟨A5, c5, rfl, hlc5, hcc5, hA5⟩ := a5
 obtain ⟨zA4, zc4, rfl, zlc, zcc, hB⟩ := za4
 obtain ⟨zA5, zc5, rfl, zlc5, zcc5, hB5⟩ := za5
 have Hf := Lib.hid (eqTr_succ n a b)
 clear h h'
 rcases q1 : (a.kind == b.kind) with _ | _
 ·rw [q1] at Hf; simp only [Bool.false_and] at Hf
  have n1 := ne_of q1
  simp only [Bool.not_false] at n1
  go_enter Tryz.func20, Tryz.ntmps20
  go_wp2_with fail
  go_ret
  exact ⟨ret_bool Hf.out.symm, bel⟩
 have n1 := ne_of q1
 simp only [Bool.not_true] at n1
 rcases q2 : (a.flag == b.flag) with _ | _
 ·rw [q1, q2] at Hf; simp only [Bool.false_and, Bool.and_false] at Hf
  have n2 := ne_of q2
  simp only [Bool.not_false] at n2
  go_enter Tryz.func20, Tryz.ntmps20
  go_wp2_with fail
  go_ret
  exact ⟨ret_bool Hf.out.symm, bel⟩
 have n2 := ne_of q2
 simp only [Bool.not_true] at n2
 rcases q3 : (a.num == b.num) with _ | _
 ·rw [q1, q2, q3] at Hf; simp only [Bool.false_and, Bool.and_false] at Hf
  have n3 := ne_of q3
  simp only [Bool.not_false] at n3
  go_enter Tryz.func20, Tryz.ntmps20
  go_wp2_with fail
  go_ret
  exact ⟨ret_bool Hf.out.symm, bel⟩
 have n3 := ne_of q3
 simp only [Bool.not_true] at n3
 rcases q4 : (a.text.toList == b.text.toList) with _ | _
 ·rw [q1, q2, q3, q4] at Hf; simp only [Bool.false_and, Bool.and_false] at Hf
  have n4 := ne_of q4
  simp only [Bool.not_false] at n4
  go_enter Tryz.func20, Tryz.ntmps20
  go_wp2_with fail
  go_ret
  exact ⟨ret_bool Hf.out.symm, bel⟩
 have n4 := ne_of q4
 simp only [Bool.not_true] at n4
 by_cases hk : a.keys.length = b.keys.length
 rotate_left
 ·have Hx := Lib.hid (eqL_len eqStr a.keys b.keys hk)
  have lk : ((a.keys.length : Int) != b.keys.length) = true := bne_iff_ne.2 (by omega)
  have He := Lib.hid (show eqTr (n + 1) a b = false by rw [eqTr_succ, Hx.out]; simp only [Bool.and_false, Bool.false_and])
  clear Hf hk
  go_enter Tryz.func20, Tryz.ntmps20
  go_wp2_with fail
  go_ret
  exact ⟨ret_bool He.out.symm, bel⟩
 have lk : ((a.keys.length : Int) != b.keys.length) = false := bne_eq_false_iff_eq.2 (by omega)
 have Lk := Lib.hid hk
 clear hk
 by_cases hd : a.kids.length = b.kids.length
 rotate_left
 ·have Hx := Lib.hid (eqL_len (eqTr n) a.kids b.kids hd)
  have ld : ((a.kids.length : Int) != b.kids.length) = true := bne_iff_ne.2 (by omega)
  have He := Lib.hid (show eqTr (n + 1) a b = false by rw [eqTr_succ, Hx.out]; simp only [Bool.and_false])
  clear Hf hd
  go_enter Tryz.func20, Tryz.ntmps20
  go_wp2_with fail
  go_ret
  exact ⟨ret_bool He.out.symm, bel⟩
 have ld : ((a.kids.length : Int) != b.kids.length) = false := bne_eq_false_iff_eq.2 (by omega)
 have Ld := Lib.hid hd
 clear hd
 rw [q1, q2, q3, q4] at Hf
 simp only [Bool.true_and] at Hf
 go_enter Tryz.func20, Tryz.ntmps20
 go_wp2_with fail
 go_loopw [5] (fun v wr => ∃ k : Nat, k <= a.keys.length /\ v = .int .i64 k /\ allR k (eqAt eqStr a.keys b.keys) = true /\ wr.heap[w.heap.size]? = some (.cells #[.int .i64 a.kind, .bool a.flag, .int .i64 a.num, .string a.text, .slice A4 a.keys.length c4, .slice A5 a.kids.length c5] 34 (0, 0)) /\ wr.heap[w.heap.size + 1]? = some (.cells #[.int .i64 b.kind, .bool b.flag, .int .i64 b.num, .string b.text, .slice zA4 b.keys.length zc4, .slice zA5 b.kids.length zc5] 34 (0, 0)) /\ Below w.heap.size w wr) (fun v _ => a.keys.length - (intOf v).toNat)
 case atStart => exact ⟨0, Nat.zero_le _, rfl, rfl, (Below.heap_alloc _ _ _ (by simp)).trans (heap_at rfl), heap_at (by simp), bel⟩
 case round =>
  obtain ⟨k, hk, rfl, hall, hT, hK, hbr⟩ := hrel
  have Hall := Lib.hid hall
  have HT := Lib.hid hT
  have HK := Lib.hid hK
  clear hall hT hK
  obtain ⟨x0, x1, x2, x3, x4, x5, xf⟩ := row6 HT.out
  obtain ⟨y0, y1, y2, y3, y4, y5, yf⟩ := row6 HK.out
  have hl1 := row_lt HT.out
  have hl2 := row_lt HK.out
  by_cases hlt : k < a.keys.length
  ·obtain ⟨p, o, rfl, -, hbl, hcell⟩ := hA (by omega)
   obtain ⟨p', o', rfl, -, hbl', hcell'⟩ := hB (by have := Lk.out; omega)
   obtain ⟨d, hd⟩ := exists_at hlt
   obtain ⟨d', hd'⟩ := exists_at (show k < b.keys.length by have := Lk.out; omega)
   obtain ⟨es, -, hcs, rfl, hz1⟩ := hcell k d hd
   obtain ⟨es', -, hcs', rfl, hz2⟩ := hcell' k d' hd'
   have hc0 := (hbr.cell (p := ⟨p, o + k * 1 + 0, none⟩) hbl).trans (hcs 0 (by omega))
   have hd0 := (hbr.cell (p := ⟨p', o' + k * 1 + 0, none⟩) hbl').trans (hcs' 0 (by omega))
   simp at hc0 hd0
   have hbr1 := Nat.lt_of_lt_of_le hbl hbr.size
   have hbr2 := Nat.lt_of_lt_of_le hbl' hbr.size
   have hbs := hbr.size
   have hk0 : (0 : Int) <= k := by omega
   have hk1 : (k : Int) < a.keys.length := by omega
   have hk2 : (k : Int) < b.keys.length := by have := Lk.out; omega
   have He := Lib.hid (eqAt_eq eqStr a.keys b.keys k d d' hd hd')
   clear hcs hcell hA hcs' hcell' hB hd hd' hA5 hB5
   rcases q0 : (d.toList == d'.toList) with _ | _
   ·have Hbad := Lib.hid (show eqAt eqStr a.keys b.keys k = false by rw [He.out]; exact q0)
    have m1 := ne_of q0
    simp only [Bool.not_false] at m1
    go_wp2_with fail
    refine wp_region_det 11 (by kernel_rfl) (by kernel_rfl) (by decide) ?_
    refine ds ?_
    refine ds ?_
    iterate 2 refine ds ?_
    refine ds ?_
    refine ds ?_
    refine ds ?_
    iterate 2 refine ds ?_
    refine ds ?_
    refine ds ?_
    intro w1 hb
    (first | (have hcu2 := Cum.join hcu hb; (try clear hcu); (try clear hc); (try clear hfz); (try clear hsz); (try clear hs0); (try clear hs1); (try clear hs2); (try clear hs3); (try clear hs4); ) | have hcu2 := Cum.mk hb); have hcu := hcu2; clear hcu2; obtain ⟨hc, hfz⟩ := bcell hcu.h; have hsz := hcu.h.size; (try simp at hsz); (try have hs0 := lt_of_succ_le hsz); (try (have hs1 := lt_pred hsz; (try (have hs2 := lt_pred hs1; (try (have hs3 := lt_pred hs2; (try have hs4 := lt_pred hs3)))))))
    (try simp only [Act.put, List.setIfInBounds_toArray, List.set_cons_zero, List.set_cons_succ])
    (try simp only [List.drop_succ_cons, List.drop_nil])
    have Hx := Lib.hid (show eqTr (n + 1) a b = false by rw [Hf.out, eqL_bad eqStr a.keys b.keys k hlt Hbad.out]; rfl)
    go_wp2_with fail
    go_ret
    exact ⟨ret_bool Hx.out.symm, bel⟩
   ·have Hn := Lib.hid (show allR (k + 1) (eqAt eqStr a.keys b.keys) = true by rw [allR_succ, Hall.out, He.out]; exact q0)
    have m1 := ne_of q0
    simp only [Bool.not_true] at m1
    go_wp2_with fail
    refine wp_region_det 11 (by kernel_rfl) (by kernel_rfl) (by decide) ?_
    refine ds ?_
    refine ds ?_
    iterate 2 refine ds ?_
    refine ds ?_
    refine ds ?_
    refine ds ?_
    iterate 2 refine ds ?_
    refine ds ?_
    refine ds ?_
    intro wq hbwq
    (try simp only [Act.put, List.setIfInBounds_toArray, List.set_cons_zero, List.set_cons_succ])
    (try simp only [List.drop_succ_cons, List.drop_nil])
    have HTq := Lib.hid ((hbwq.block _ hl1).trans HT.out)
    have HKq := Lib.hid ((hbwq.block _ hl2).trans HK.out)
    have HBq := Lib.hid (hbr.trans (hbwq.mono hbr.size))
    clear x0 x1 x2 x3 x4 x5 xf y0 y1 y2 y3 y4 y5 yf
    go_wp2_with fail
    go_roundw
    case rel => exact ⟨k + 1, by omega, by go_num, Hn.out, HTq.out, HKq.out, HBq.out⟩
    case measure => simp [intOf]; omega
  ·obtain rfl : k = a.keys.length := by omega
   have HKs := Lib.hid (eqL_all eqStr a.keys b.keys Lk.out Hall.out)
   have hke : decide (a.keys.length < a.keys.length) = false := decide_eq_false (Nat.lt_irrefl _)
   clear hA hB Hall
   rw [HKs.out] at Hf
   simp only [Bool.true_and] at Hf
   go_wp2_with fail
   go_loopw [6] (fun v wr => ∃ k : Nat, k <= a.kids.length /\ v = .int .i64 k /\ allR k (eqAt (eqTr n) a.kids b.kids) = true /\ wr.heap[w.heap.size]? = some (.cells #[.int .i64 a.kind, .bool a.flag, .int .i64 a.num, .string a.text, .slice A4 a.keys.length c4, .slice A5 a.kids.length c5] 34 (0, 0)) /\ wr.heap[w.heap.size + 1]? = some (.cells #[.int .i64 b.kind, .bool b.flag, .int .i64 b.num, .string b.text, .slice zA4 b.keys.length zc4, .slice zA5 b.kids.length zc5] 34 (0, 0)) /\ Below w.heap.size w wr) (fun v _ => a.kids.length - (intOf v).toNat)
   case atStart => exact ⟨0, Nat.zero_le _, rfl, rfl, HT.out, HK.out, hbr⟩
   case round =>
    have hb0 := hbr
    clear hbr hl1 hl2 HT HK x0 x1 x2 x3 x4 x5 xf y0 y1 y2 y3 y4 y5 yf
    obtain ⟨k, hk, rfl, hall, hT, hK, hbr⟩ := hrel
    have Hall := Lib.hid hall
    have HT := Lib.hid hT
    have HK := Lib.hid hK
    clear hall hT hK hb0
    obtain ⟨x0, x1, x2, x3, x4, x5, xf⟩ := row6 HT.out
    obtain ⟨y0, y1, y2, y3, y4, y5, yf⟩ := row6 HK.out
    have hl1 := row_lt HT.out
    have hl2 := row_lt HK.out
    by_cases hlt : k < a.kids.length
    ·obtain ⟨p, o, rfl, -, hbl, hcell⟩ := hA5 (by omega)
     obtain ⟨p', o', rfl, -, hbl', hcell'⟩ := hB5 (by have := Ld.out; omega)
     obtain ⟨d, hd⟩ := exists_at hlt
     obtain ⟨d', hd'⟩ := exists_at (show k < b.kids.length by have := Ld.out; omega)
     obtain ⟨es, -, hcs, hC⟩ := hcell k d hd
     obtain ⟨es', -, hcs', hD⟩ := hcell' k d' hd'
     obtain ⟨eA4, ec4, eA5, ec5, rfl, ea0, ea2, ea3⟩ := hC.flat
     obtain ⟨fA4, fc4, fA5, fc5, rfl, fa0, fa2, fa3⟩ := hD.flat
     have hc0 := (hbr.cell (p := ⟨p, o + k * 6 + 0, none⟩) (by simp; omega)).trans (hcs 0 (by omega))
     simp at hc0
     have hc1 := (hbr.cell (p := ⟨p, o + k * 6 + 1, none⟩) (by simp; omega)).trans (hcs 1 (by omega))
     simp at hc1
     have hc2 := (hbr.cell (p := ⟨p, o + k * 6 + 2, none⟩) (by simp; omega)).trans (hcs 2 (by omega))
     simp at hc2
     have hc3 := (hbr.cell (p := ⟨p, o + k * 6 + 3, none⟩) (by simp; omega)).trans (hcs 3 (by omega))
     simp at hc3
     have hc4 := (hbr.cell (p := ⟨p, o + k * 6 + 4, none⟩) (by simp; omega)).trans (hcs 4 (by omega))
     simp at hc4
     have hc5 := (hbr.cell (p := ⟨p, o + k * 6 + 5, none⟩) (by simp; omega)).trans (hcs 5 (by omega))
     simp at hc5
     have hd0 := (hbr.cell (p := ⟨p', o' + k * 6 + 0, none⟩) (by simp; omega)).trans (hcs' 0 (by omega))
     simp at hd0
     have hd1 := (hbr.cell (p := ⟨p', o' + k * 6 + 1, none⟩) (by simp; omega)).trans (hcs' 1 (by omega))
     simp at hd1
     have hd2 := (hbr.cell (p := ⟨p', o' + k * 6 + 2, none⟩) (by simp; omega)).trans (hcs' 2 (by omega))
     simp at hd2
     have hd3 := (hbr.cell (p := ⟨p', o' + k * 6 + 3, none⟩) (by simp; omega)).trans (hcs' 3 (by omega))
     simp at hd3
     have hd4 := (hbr.cell (p := ⟨p', o' + k * 6 + 4, none⟩) (by simp; omega)).trans (hcs' 4 (by omega))
     simp at hd4
     have hd5 := (hbr.cell (p := ⟨p', o' + k * 6 + 5, none⟩) (by simp; omega)).trans (hcs' 5 (by omega))
     simp at hd5
     have hbr1 := Nat.lt_of_lt_of_le hbl hbr.size
     have hbr2 := Nat.lt_of_lt_of_le hbl' hbr.size
     have hbs := hbr.size
     have hk0 : (0 : Int) <= k := by omega
     have hk1 : (k : Int) < a.kids.length := by omega
     have hk2 : (k : Int) < b.kids.length := by have := Ld.out; omega
     have He := Lib.hid (eqAt_eq (eqTr n) a.kids b.kids k d d' hd hd')
     have HC := Lib.hid hC
     have HD := Lib.hid hD
     clear hcs hcell hA5 hcs' hcell' hB5 hd hd' hC hD
     rcases q0 : eqTr n d d' with _ | _
     ·have Hbad := Lib.hid (show eqAt (eqTr n) a.kids b.kids k = false by rw [He.out, q0])
      have Hx := Lib.hid (show eqTr (n + 1) a b = false by rw [Hf.out]; exact eqL_bad (eqTr n) a.kids b.kids k hlt Hbad.out)
      go_wp2_with fail
      go_region_held3 (fun w' => Below (wr).heap.size (wr) w' /\ (∀ xb xo, xb < (wr).heap.size -> w'.cell? ⟨xb, xo, none⟩ = (wr).cell? ⟨xb, xo, none⟩)) (first | exact keep_drew _ | exact keep_ext (by assumption) (by assumption) | exact keep_same (by assumption) | exact keep_alloc (by assumption) _) (first | (go_at_call 20; refine (ih d d' _ _ _ _ _ (HC.out.now (ext_trans hbr (by first | (with_reducible exact Below.refl _ _) | exact (keep_same (by assumption)).1))) (HD.out.now (ext_trans hbr (by first | (with_reducible exact Below.refl _ _) | exact (keep_same (by assumption)).1)))).mono ?_; rintro e w9 ⟨rfl, hb9⟩))
      (have hb := held_step (by assumption); (first | (have hcu2 := Cum.join hcu hb; (try clear hcu); (try clear hc); (try clear hfz); (try clear hsz); (try clear hs0); (try clear hs1); (try clear hs2); (try clear hs3); (try clear hs4); ) | have hcu2 := Cum.mk hb); have hcu := hcu2; clear hcu2; obtain ⟨hc, hfz⟩ := bcell hcu.h; have hsz := hcu.h.size; (try simp at hsz); (try have hs0 := lt_of_succ_le hsz); (try (have hs1 := lt_pred hsz; (try (have hs2 := lt_pred hs1; (try (have hs3 := lt_pred hs2; (try have hs4 := lt_pred hs3))))))))
      go_wp2_with fail
      go_ret
      exact ⟨ret_bool Hx.out.symm, bel⟩
     ·have Hn := Lib.hid (show allR (k + 1) (eqAt (eqTr n) a.kids b.kids) = true by rw [allR_succ, Hall.out, He.out, q0]; rfl)
      go_upto_region 11 with fail
      go_cut [87] from 76 to 87 (fun s87 wx => s87 = .bool false /\ Below wr.heap.size wr wx)
      case first =>
       go_region_held3 (fun w' => Below (wr).heap.size (wr) w' /\ (∀ xb xo, xb < (wr).heap.size -> w'.cell? ⟨xb, xo, none⟩ = (wr).cell? ⟨xb, xo, none⟩)) (first | exact keep_drew _ | exact keep_ext (by assumption) (by assumption) | exact keep_same (by assumption) | exact keep_alloc (by assumption) _) (first | (go_at_call 20; refine (ih d d' _ _ _ _ _ (HC.out.now (ext_trans hbr (by first | (with_reducible exact Below.refl _ _) | exact (keep_same (by assumption)).1))) (HD.out.now (ext_trans hbr (by first | (with_reducible exact Below.refl _ _) | exact (keep_same (by assumption)).1)))).mono ?_; rintro e w9 ⟨rfl, hb9⟩))
       have hb := held_step (by assumption)
       go_wp2_with fail
       go_meet
       exact ⟨by simp, hb⟩
      case rest =>
       obtain ⟨rfl, hbq⟩ := hcut
       have HTq := Lib.hid ((hbq.block _ hl1).trans HT.out)
       have HKq := Lib.hid ((hbq.block _ hl2).trans HK.out)
       have HBq := Lib.hid (hbr.trans (hbq.mono hbr.size))
       go_wp2_with fail
       go_roundw
       case rel => exact ⟨k + 1, by omega, by go_num, Hn.out, HTq.out, HKq.out, HBq.out⟩
       case measure => simp [intOf]; omega
    ·obtain rfl : k = a.kids.length := by omega
     have Hx := Lib.hid (show eqTr (n + 1) a b = true by rw [Hf.out]; exact eqL_all (eqTr n) a.kids b.kids Ld.out Hall.out)
     clear hA5 hB5
     go_wp2_with fail
     go_ret
     exact ⟨ret_bool Hx.out.symm, bel⟩
theorem all_sameS : ∀ n, T_sameS n
 | 0 => fun _ _ _ _ _ _ _ h _ => (C_Tree.none h).elim
 | n + 1 => of_sameS n (all_sameS n)
def sameB (a b : ByteArray) : Bool := ((readB a).1.code == 0) && ((readB b).1.code == 0) && eqTr 10 (readB a).2 (readB b).2
theorem c_impl_BracedSame (a b : ByteArray) (w : World) (ha : a.size <= 1048576) (hb : b.size <= 1048576) (hV : CTab w) (hT : Tabs w) (hE : ErrR w) :
  Calls Tryz.prog 38 #[.string a, .string b] w fun e w' => e = .returned (.bool (sameB a b)) /\ Below w.heap.size w w' := by
 have HA := hid (fun (w' : World) (h : Below w.heap.size w w') => c_impl_ReadBraced a w' ha (hV.below h) (hT.below h) (hE.below h))
 have HB := hid (fun (w' : World) (h : Below w.heap.size w w') => c_impl_ReadBraced b w' hb (hV.below h) (hT.below h) (hE.below h))
 have HF := hid (show sameB a b = (((readB a).1.code == 0) && ((readB b).1.code == 0) && eqTr 10 (readB a).2 (readB b).2) from rfl)
 obtain ⟨r, hr⟩ : ∃ r, r = readB a := ⟨_, rfl⟩
 rw [<- hr] at HA HF
 obtain ⟨q, hq⟩ : ∃ q, q = readB b := ⟨_, rfl⟩
 rw [<- hq] at HB HF
 clear hr hq hV hT hE
 obtain ⟨⟨fc, fa, fp⟩, t⟩ := r
 obtain ⟨⟨gc, ga, gp⟩, u⟩ := q
 have hrf : fltC (⟨fc, fa, fp⟩ : Flt) = #[.int .i64 fc, .int .i64 fa, .string fp] := rfl
 have hrg : fltC (⟨gc, ga, gp⟩ : Flt) = #[.int .i64 gc, .int .i64 ga, .string gp] := rfl
 have q1 : (fc == 0) = false ∨ (fc == 0) = true := by rcases (fc == 0) with _ | _ <;> simp
 have q2 : (gc == 0) = false ∨ (gc == 0) = true := by rcases (gc == 0) with _ | _ <;> simp
 simp only at HF
 go_enter Tryz.func38, Tryz.ntmps38
 go_wp2_with fail
 refine (HA.out w bel).mono ?_
 rintro e w1 ⟨cs, rfl, hO1, hb1⟩
 have HC1 := hid (hO1.toC (fun _ h => h))
 obtain ⟨U4, u44, U5, u55, rfl, -⟩ := hO1.flat
 simp only [hrf]
 have HB1 := hid hb1
 clear hO1 hb1 hrf
 go_wp2_with fail
 obtain ⟨w2, hw2⟩ : ∃ W, W = (w1.alloc (.cells #[.int .i64 t.kind, .bool t.flag, .int .i64 t.num, .string t.text, .slice U4 t.keys.length u44, .slice U5 t.kids.length u55] 34)).alloc (.cells #[.int .i64 fc, .int .i64 fa, .string fp] 23) := ⟨_, rfl⟩
 have hb2 : Below w1.heap.size w1 w2 := by rw [hw2]; exact bel
 have X1 : w2.heap[w1.heap.size]? = some (.cells #[.int .i64 t.kind, .bool t.flag, .int .i64 t.num, .string t.text, .slice U4 t.keys.length u44, .slice U5 t.kids.length u55] 34 (0, 0)) := by rw [hw2]; exact (Below.heap_alloc _ _ _ (by simp)).trans (heap_at rfl)
 have X2 : w2.heap[w1.heap.size + 1]? = some (.cells #[.int .i64 fc, .int .i64 fa, .string fp] 23 (0, 0)) := by rw [hw2]; exact heap_at (by simp)
 rw [<- hw2]
 refine (HB.out w2 (HB1.out.trans (hb2.mono HB1.out.size))).mono ?_
 rintro e w3 ⟨cs, rfl, hO2, hb3⟩
 have HC2 := hid (hO2.toC (fun _ h => h))
 obtain ⟨V4, v44, V5, v55, rfl, -⟩ := hO2.flat
 simp only [hrg]
 have HT1 := hid ((hb3.block _ (row_lt X1)).trans X1)
 have HT2 := hid ((hb3.block _ (row_lt X2)).trans X2)
 have H13 := hid (hb2.trans (hb3.mono hb2.size))
 have H03 := hid (HB1.out.trans (H13.out.mono HB1.out.size))
 obtain ⟨x0, x1, x2, x3, x4, x5, xf⟩ := row6 HT1.out
 obtain ⟨y0, y1, y2, yf⟩ := row3 HT2.out
 have l1 := row_lt HT1.out
 have l2 := row_lt HT2.out
 clear hO2 hb3 hrg hw2 hb2 X1 X2
 rcases q1 with q1 | q1
 ·have HX := hid (show sameB a b = false by rw [HF.out, q1]; rfl)
  go_wp2_with fail
  have h03 := H03.out
  go_ret
  exact ⟨ret_bool HX.out.symm, bel⟩
 ·rcases q2 with q2 | q2
  ·have HX := hid (show sameB a b = false by rw [HF.out, q1, q2]; rfl)
   go_wp2_with fail
   have h03 := H03.out
   go_ret
   exact ⟨ret_bool HX.out.symm, bel⟩
  ·have HX := hid (show sameB a b = eqTr 10 t u by rw [HF.out, q1, q2]; rfl)
   have HS := hid (fun (w' : World) (h : Below w3.heap.size w3 w') => all_sameI 10 t u _ _ w' _ _ (HC1.out.now (H13.out.trans (h.mono H13.out.size))) (HC2.out.now h))
   go_wp2_with (go_at_call 78; refine (HS.out _ bel).mono ?_; rintro e w4 ⟨rfl, hb4⟩)
   have h03 := H03.out
   go_ret
   exact ⟨ret_bool HX.out.symm, bel⟩
theorem brN_good {s : ByteArray} (h : (readB s).1.code = 0) : brN s = (⟨(sayL 10 (readB s).2).toArray⟩, flt0) := by
 obtain ⟨h1, -, h3, h4⟩ := readB_ok h
 unfold brN bracedB
 rw [if_pos h, if_pos h1, if_neg (by omega)]
theorem brN_bad {s : ByteArray} (h : ¬ (readB s).1.code = 0) : brN s = (⟨#[]⟩, (readB s).1) := by
 unfold brN
 rw [if_neg h]
theorem brN_code (s : ByteArray) : (brN s).2.code = (readB s).1.code := by
 by_cases h : (readB s).1.code = 0
 ·rw [brN_good h, h]; rfl
 ·rw [brN_bad h]
theorem brN_back {s : ByteArray} (h : (readB s).1.code = 0) : readB (brN s).1 = (flt0, (readB s).2) := by
 obtain ⟨h1, h2, h3, h4⟩ := readB_ok h
 rw [brN_good h]
 exact readB_back h1 h2 (by omega)
theorem brN_again {s : ByteArray} (h : (readB s).1.code = 0) : brN (brN s).1 = brN s := by
 have h1 := brN_back h
 have h2 : (readB (brN s).1).1.code = 0 := by rw [h1]; rfl
 rw [brN_good h2, h1, brN_good h]
theorem brN_size {s : ByteArray} (h : (readB s).1.code = 0) : (brN s).1.size <= s.size := by
 obtain ⟨-, -, h3, -⟩ := readB_ok h
 rw [brN_good h]
 show (sayL 10 (readB s).2).toArray.size <= s.size
 simpa using h3
theorem bytes_eq {a b : ByteArray} (h : (a.toList == b.toList) = true) : a = b := toList_inj (beq_iff_eq.1 h)
theorem eqL_true {D : Type} {eq : D -> D -> Bool} {l m : List D} (h : eqL eq l m = true) (he : ∀ a ∈ l, ∀ b, eq a b = true -> a = b) : l = m := by
 unfold eqL at h
 simp only [Bool.and_eq_true, decide_eq_true_eq] at h
 obtain ⟨h1, h2⟩ := h
 unfold allR at h2
 refine List.ext_getElem h1 (fun i g1 g2 => ?_)
 have h3 := List.all_eq_true.1 h2 i (List.mem_range.2 g1)
 rw [eqAt_eq eq l m i l[i] m[i] (List.getElem?_eq_getElem g1) (List.getElem?_eq_getElem g2)] at h3
 exact he _ (List.getElem_mem g1) _ h3
theorem eqL_refl {D : Type} {eq : D -> D -> Bool} {l : List D} (he : ∀ a ∈ l, eq a a = true) : eqL eq l l = true := by
 refine eqL_all eq l l rfl ?_
 unfold allR
 refine List.all_eq_true.2 (fun i hi => ?_)
 have g1 := List.mem_range.1 hi
 rw [eqAt_eq eq l l i l[i] l[i] (List.getElem?_eq_getElem g1) (List.getElem?_eq_getElem g1)]
 exact he _ (List.getElem_mem g1)
theorem eqTr_eq : ∀ (n : Nat) (a b : TreeD), shapeT n a = true -> eqTr n a b = true -> a = b
 | 0, _, _, h, _ => by cases h
 | n + 1, a, b, h, k => by
  rw [eqTr_succ] at k
  simp only [Bool.and_eq_true, beq_iff_eq] at k
  obtain ⟨⟨⟨⟨⟨k1, k2⟩, k3⟩, k4⟩, k5⟩, k6⟩ := k
  have e4 := toList_inj k4
  have e5 := eqL_true k5 (fun x _ y hxy => bytes_eq hxy)
  have e6 := eqL_true k6 (fun x hx y hxy => by
   obtain ⟨i, hi⟩ := List.getElem?_of_mem hx
   exact eqTr_eq n x y (shape_kid h hi) hxy)
  obtain ⟨a1, a2, a3, a4, a5, a6⟩ := a
  obtain ⟨b1, b2, b3, b4, b5, b6⟩ := b
  simp only at k1 k2 k3 e4 e5 e6
  subst k1 k2 k3 e4 e5 e6
  rfl
theorem eqTr_refl : ∀ (n : Nat) (a : TreeD), shapeT n a = true -> eqTr n a a = true
 | 0, _, h => by cases h
 | n + 1, a, h => by
  rw [eqTr_succ, eqL_refl (eq := eqStr) (fun x _ => beq_self_eq_true _), eqL_refl (eq := eqTr n) (fun x hx => by
   obtain ⟨i, hi⟩ := List.getElem?_of_mem hx
   exact eqTr_refl n x (shape_kid h hi))]
  simp
theorem sameB_law (a b : ByteArray) : sameB a b = (((brN a).2.code == 0) && ((brN b).2.code == 0) && ((brN a).1.toList == (brN b).1.toList)) := by
 unfold sameB
 rw [brN_code, brN_code]
 by_cases ha : (readB a).1.code = 0
 ·by_cases hb : (readB b).1.code = 0
  ·rw [ha, hb]
   simp only [beq_self_eq_true, Bool.true_and]
   rw [Bool.eq_iff_iff]
   obtain ⟨h1, -⟩ := readB_ok ha
   have hsh := (okT_parts h1).2
   constructor
   ·intro h
    have e := eqTr_eq 10 _ _ hsh h
    rw [brN_good ha, brN_good hb, e, beq_self_eq_true]
   ·intro h
    have e := bytes_eq h
    have h3 := brN_back ha
    have h4 := brN_back hb
    rw [e, h4] at h3
    have e2 : (readB b).2 = (readB a).2 := (Prod.mk.inj h3).2
    rw [e2]
    exact eqTr_refl 10 _ hsh
  ·have : ((readB b).1.code == 0) = false := by simpa using hb
   rw [this]
   simp
 ·have : ((readB a).1.code == 0) = false := by simpa using ha
  rw [this]
  simp
theorem sameB_self {s : ByteArray} (h : (readB s).1.code = 0) : sameB s (brN s).1 = true := by
 rw [sameB_law, brN_again h, brN_good h]
 simp [flt0]
theorem sameB_bad {s t : ByteArray} (h : ¬ (readB s).1.code = 0) : sameB s t = false := by
 have : ((readB s).1.code == 0) = false := by simpa using h
 unfold sameB
 rw [this]
 simp
def okB (s : ByteArray) : Bool := (readB s).1.code == 0
theorem c_impl_BracedOk (s : ByteArray) (w : World) (hs : s.size <= 1048576) (hV : CTab w) (hT : Tabs w) (hE : ErrR w) :
  Calls Tryz.prog 37 #[.string s] w fun e w' => e = .returned (.bool (okB s)) /\ Below w.heap.size w w' := by
 have HI := hid (c_impl_ReadBraced s w hs hV hT hE)
 have HF := hid (show okB s = ((readB s).1.code == 0) from rfl)
 obtain ⟨r, hr⟩ : ∃ r, r = readB s := ⟨_, rfl⟩
 rw [<- hr] at HI HF
 clear hV hT hE hr
 obtain ⟨⟨fc, fa, fp⟩, t⟩ := r
 go_enter Tryz.func37, Tryz.ntmps37
 go_wp2_with fail
 refine HI.out.mono ?_
 rintro e w1 ⟨cs, rfl, hO, hb1⟩
 obtain ⟨U4, u44, U5, u55, rfl, -⟩ := hO.flat
 clear hO
 have hrf : fltC (⟨fc, fa, fp⟩ : Flt) = #[.int .i64 fc, .int .i64 fa, .string fp] := rfl
 simp only [hrf]
 clear hrf
 go_wp2_with fail
 go_ret
 exact ⟨ret_bool HF.out.symm, bel⟩
def looB : Nat -> Nat
 | 0 => 0
 | 1 => 130
 | k + 2 => 4 + 4 * (130 + looB (k + 1))
theorem looB_pos (k : Nat) : 130 <= looB (k + 1) := by cases k <;> (unfold looB; omega)
theorem loo_list {k n : Nat} (hn : n <= 4) (h0 : k = 0 -> n = 0) : 1 + n * (1 + looB k) + 3 <= looB (k + 1) := by
 cases k with
 | zero => rw [h0 rfl]; decide
 | succ k =>
  have h1 : n * (1 + looB (k + 1)) <= 4 * (1 + looB (k + 1)) := Nat.mul_le_mul_right _ hn
  show _ <= 4 + 4 * (130 + looB (k + 1))
  omega
theorem loo_map {k n : Nat} (hn : n <= 4) (h0 : k = 0 -> n = 0) : 3 + n * (128 + looB k) + 1 <= looB (k + 1) := by
 cases k with
 | zero => rw [h0 rfl]; decide
 | succ k =>
  have h1 : n * (128 + looB (k + 1)) <= 4 * (128 + looB (k + 1)) := Nat.mul_le_mul_right _ hn
  show _ <= 4 + 4 * (130 + looB (k + 1))
  omega
structure Loo (k : Nat) (d : TreeD) : Prop where
 shape : shapeT k d = true
 word : WordT k d
theorem Loo.kid {k : Nat} {d t : TreeD} (h : Loo (k + 1) d) (ht : t ∈ d.kids) : Loo k t := by
 obtain ⟨i, hi⟩ := List.getElem?_of_mem ht
 exact ⟨shape_kid h.shape hi, h.word.2.2.2 t ht⟩
def T_loose (k : Nat) : Prop := ∀ (code : List UInt8) (p : Nat) (d : TreeD) (cs : List Value) (w : World) (lo : Nat), CurAt code p w -> C_Tree k lo w.heap.size w d cs -> p < lo -> Loo k d ->
  Calls Tryz.prog 207 #[.pointer (some ⟨p, 0, none⟩), .agg cs.toArray] w fun e w' => ∃ s : ByteArray, e = .returned (.string s) /\ s.size <= looB k /\ Dr code p w w'
theorem of_loose (k : Nat) (hk3 : k <= 3) (ih : T_loose k) : T_loose (k + 1) := by
 intro code p d cs w lo h hC hp hD
 have hpl := h.lt
 have Hall := hid (show ∀ s ∈ ([⟨#[]⟩, ⟨#[]⟩, ⟨#[32]⟩, ⟨#[10]⟩, ⟨#[9, 32]⟩] : List ByteArray), s.size <= 2 by decide)
 have hkind := (bad_parts (shape_parts hD.shape).1).1
 obtain ⟨hk1, hk6⟩ := hkind
 have HW := hid hD.word
 have HK := hid (fun t (ht : t ∈ d.kids) => hD.kid ht)
 have HN : Hid (d.kind = 6 -> d.keys.length = d.kids.length) := hid (fun hk => by
  have h3 := (shape_parts hD.shape).2.2.1
  unfold lensOk at h3
  simp [hk] at h3
  exact h3)
 have h0 : k = 0 -> d.kids.length = 0 := fun e => by
  subst e
  rcases Nat.eq_zero_or_pos d.kids.length with h0 | h0
  ·exact h0
  ·obtain ⟨t, ht⟩ := exists_at h0
   exact (hD.word.2.2.2 t (List.mem_of_getElem? ht)).elim
 have HL := hid (And.intro (loo_list hD.word.2.2.1 h0) (And.intro (loo_map hD.word.2.2.1 h0) hD.word.2.2.1))
 have hpos := looB_pos k
 have hB4 : looB k <= 4700 := by rcases (show k = 0 ∨ k = 1 ∨ k = 2 ∨ k = 3 by omega) with rfl | rfl | rfl | rfl <;> decide
 obtain ⟨v4, v5, rfl, a0, a2, a3, a4, a5⟩ := hC.out
 obtain ⟨A4, c4, rfl, -, -, hA4⟩ := a4
 obtain ⟨A5, c5, rfl, -, -, hA5⟩ := a5
 have HA4 := hid hA4
 have HA5 := hid hA5
 obtain ⟨B, hB⟩ : ∃ B, B = looB k := ⟨_, rfl⟩
 obtain ⟨M, hM⟩ : ∃ M, M = looB (k + 1) := ⟨_, rfl⟩
 have ih : ∀ (code : List UInt8) (p : Nat) (d : TreeD) (cs : List Value) (w : World) (lo : Nat), CurAt code p w -> C_Tree k lo w.heap.size w d cs -> p < lo -> Loo k d ->
  Calls Tryz.prog 207 #[.pointer (some ⟨p, 0, none⟩), .agg cs.toArray] w fun e w' => ∃ s : ByteArray, e = .returned (.string s) /\ s.size <= B /\ Dr code p w w' := hB ▸ ih
 obtain ⟨C, hC9⟩ : ∃ C, C = 1 + B := ⟨_, rfl⟩
 obtain ⟨E, hE9⟩ : ∃ E, E = 128 + B := ⟨_, rfl⟩
 rw [<- hB, <- hM, <- hC9, <- hE9] at HL
 have hCB : C <= 1 + B /\ 1 + B <= C /\ E <= 128 + B /\ 128 + B <= E := ⟨by omega, by omega, by omega, by omega⟩
 obtain ⟨hC1, hC2, hE1, hE2⟩ := hCB
 rw [<- hB] at hB4
 rw [<- hM] at hpos ⊢
 clear hC9 hE9 hM hB hA4 hA5 hC h0 hD
 have hc := h.below (ext_alloc (o := (.cells #[.int .i64 d.kind, .bool d.flag, .int .i64 d.num, .string d.text, .slice A4 d.keys.length c4, .slice A5 d.kids.length c5] 34)) (Below.refl w.heap.size w))
 go_enter Tryz.func207, Tryz.ntmps207
 go_wp2_with fail
 obtain ⟨w1, hw1⟩ : ∃ W, W = w.alloc (.cells #[.int .i64 d.kind, .bool d.flag, .int .i64 d.num, .string d.text, .slice A4 d.keys.length c4, .slice A5 d.kids.length c5] 34) := ⟨_, rfl⟩
 have hX1 : w1.heap[w.heap.size]? = some (.cells #[.int .i64 d.kind, .bool d.flag, .int .i64 d.num, .string d.text, .slice A4 d.keys.length c4, .slice A5 d.kids.length c5] 34 (0, 0)) := by rw [hw1]; exact heap_at rfl
 have H1 : Dr code p w w1 := by rw [hw1]; exact (Dr.refl h).alloc _
 have hpl1 := H1.cur.lt
 have hz1 : w1.heap.size = w.heap.size + 1 := by rw [hw1]; simp
 rw [<- hw1, <- hz1]
 clear hz1
 refine (c_l01Pick code p ([⟨#[]⟩, ⟨#[]⟩, ⟨#[32]⟩, ⟨#[10]⟩, ⟨#[9, 32]⟩] : List ByteArray) _ w1.heap.size (w1.alloc (.cells #[.string ⟨#[]⟩, .string ⟨#[]⟩, .string ⟨#[32]⟩, .string ⟨#[10]⟩, .string ⟨#[9, 32]⟩] 9)) (H1.cur.below (ext_alloc (Below.refl _ _))) (sl_lit w1 ([⟨#[]⟩, ⟨#[]⟩, ⟨#[32]⟩, ⟨#[10]⟩, ⟨#[9, 32]⟩] : List ByteArray) (fun s hs => Nat.le_trans (Hall.out s hs) (by decide)) (by decide) 9 _ rfl) hpl1 (by decide) (by decide)).mono ?_
 rintro e w2 ⟨gap, rfl, hgap, hd2⟩
 have hd3 := Dr.cut hd2
 have H2 := hid (H1.trans hd3)
 have X3 := hid ((hd3.block (g := w.heap.size) (row_lt hX1) (by omega)).trans hX1)
 have hgz := Hall.out gap hgap
 clear hd2 hd3 hgap hX1 hw1 H1 hc
 obtain ⟨x0, x1, x2, x3, x4, x5, xf⟩ := row6 X3.out
 have xl := row_lt X3.out
 have hkk : d.kind = 1 ∨ d.kind = 2 ∨ d.kind = 3 ∨ d.kind = 4 ∨ d.kind = 5 ∨ d.kind = 6 := by omega
 rcases hkk with hk | hk | hk | hk | hk | hk
 ·have t1 : (d.kind == 1) = true := beq_iff_eq.2 hk
  clear hk
  go_wp2_with fail
  go_ret
  exact ⟨_, rfl, by simp only [ByteArray.size_append]; have e : (⟨#[110, 117, 108, 108]⟩ : ByteArray).size = 4 := rfl; omega, H2.out⟩
 ·have t1 : (d.kind == 1) = false := beq_eq_false_iff_ne.2 (by omega)
  have t2 : (d.kind == 2) = true := beq_iff_eq.2 hk
  clear hk
  rcases hf : d.flag with _ | _
  ·rw [hf] at x1
   go_wp2_with fail
   go_ret
   exact ⟨_, rfl, by simp only [ByteArray.size_append]; have e : (⟨#[102, 97, 108, 115, 101]⟩ : ByteArray).size = 5 := rfl; omega, H2.out⟩
  ·rw [hf] at x1
   go_wp2_with fail
   go_ret
   exact ⟨_, rfl, by simp only [ByteArray.size_append]; have e : (⟨#[116, 114, 117, 101]⟩ : ByteArray).size = 4 := rfl; omega, H2.out⟩
 ·have t1 : (d.kind == 1) = false := beq_eq_false_iff_ne.2 (by omega)
  have t2 : (d.kind == 2) = false := beq_eq_false_iff_ne.2 (by omega)
  have t3 : (d.kind == 3) = true := beq_iff_eq.2 hk
  clear hk
  go_wp2_with fail
  refine (c_spec_Decimal d.num _ a2).mono ?_
  rintro e w3 ⟨rfl, hb3⟩
  have H3 := hid (H2.out.step hb3)
  have hds := decS_size d.num a2
  clear hb3
  go_wp2_with fail
  go_ret
  exact ⟨_, rfl, by simp only [ByteArray.size_append]; omega, H3.out⟩
 ·have t1 : (d.kind == 1) = false := beq_eq_false_iff_ne.2 (by omega)
  have t2 : (d.kind == 2) = false := beq_eq_false_iff_ne.2 (by omega)
  have t3 : (d.kind == 3) = false := beq_eq_false_iff_ne.2 (by omega)
  have t4 : (d.kind == 4) = true := beq_iff_eq.2 hk
  clear hk
  go_wp2_with fail
  refine (c_spec_Quoted d.text _ (Nat.le_trans HW.out.1.2 (by decide))).mono ?_
  rintro e w3 ⟨rfl, hb3⟩
  have H3 := hid (H2.out.step hb3)
  have hds : (quoteB d.text).size <= 122 := HW.out.1.quote
  clear hb3
  go_wp2_with fail
  go_ret
  exact ⟨_, rfl, by simp only [ByteArray.size_append]; omega, H3.out⟩
 ·have t1 : (d.kind == 1) = false := beq_eq_false_iff_ne.2 (by omega)
  have t2 : (d.kind == 2) = false := beq_eq_false_iff_ne.2 (by omega)
  have t3 : (d.kind == 3) = false := beq_eq_false_iff_ne.2 (by omega)
  have t4 : (d.kind == 4) = false := beq_eq_false_iff_ne.2 (by omega)
  have t5 : (d.kind == 5) = true := beq_iff_eq.2 hk
  clear hk
  go_wp2_with fail
  go_loopw [6, 7] (fun s6 s7 wr => ∃ (i : Nat) (s : ByteArray), i <= d.kids.length /\ s7 = .int .i64 i /\ s6 = .string s /\ s.size <= 1 + i * C /\ wr.heap[w.heap.size]? = some (.cells #[.int .i64 d.kind, .bool d.flag, .int .i64 d.num, .string d.text, .slice A4 d.keys.length c4, .slice A5 d.kids.length c5] 34 (0, 0)) /\ Dr code p w wr) (fun _ s7 _ => d.kids.length - (intOf s7).toNat)
  case atStart => exact ⟨0, _, Nat.zero_le _, rfl, rfl, by show 1 <= 1 + 0 * C; omega, X3.out, H2.out⟩
  case round =>
   clear x0 x1 x2 x3 x4 x5 xf xl
   obtain ⟨i, s, hi, rfl, rfl, hs, hX, hR⟩ := hrel
   have X3 := hid hX
   have HR := hid hR
   have HS := hid hs
   have hwr := hR.size
   have hi4 : i <= 4 := by have := HL.out.2.2; omega
   have hsz : s.size <= 20000 := by have h9 : i * C <= 4 * 4701 := Nat.mul_le_mul hi4 (by omega); omega
   clear hX hR hs
   obtain ⟨x0, x1, x2, x3, x4, x5, xf⟩ := row6 X3.out
   have xl := row_lt X3.out
   by_cases hlt : i < d.kids.length
   ·have hi0 : (0 : Int) <= i := by omega
    have hi1 : (i : Int) < d.kids.length := by omega
    obtain ⟨fb, fo, rfl, hflo, hfb2, hfcell⟩ := HA5.out (by omega)
    obtain ⟨f, hf⟩ := exists_at hlt
    obtain ⟨fs, -, hfc, hCf⟩ := hfcell i f hf
    obtain ⟨gA4, gc4, gA5, gc5, rfl, -⟩ := hCf.flat
    have hfp : fb ≠ p := by omega
    have fbl : fb < wr.heap.size := Nat.lt_of_lt_of_le hfb2 hwr
    have hc0 := (HR.out.cell (o := fo + i * 6 + 0) hfb2 hfp).trans (hfc 0 (by omega))
    have hc1 := (HR.out.cell (o := fo + i * 6 + 1) hfb2 hfp).trans (hfc 1 (by omega))
    have hc2 := (HR.out.cell (o := fo + i * 6 + 2) hfb2 hfp).trans (hfc 2 (by omega))
    have hc3 := (HR.out.cell (o := fo + i * 6 + 3) hfb2 hfp).trans (hfc 3 (by omega))
    have hc4 := (HR.out.cell (o := fo + i * 6 + 4) hfb2 hfp).trans (hfc 4 (by omega))
    have hc5 := (HR.out.cell (o := fo + i * 6 + 5) hfb2 hfp).trans (hfc 5 (by omega))
    simp at hc0 hc1 hc2 hc3 hc4 hc5
    have HCf := hid (fun (W : World) (h : Dr code p w W) => C_Tree.keep hCf (fun b o h1 h2 => h.cell (g := b) (o := o) h2 (by omega)) (Nat.le_refl _) h.size)
    have HDf := hid (HK.out f (List.mem_of_getElem? hf))
    clear hfc hfcell hCf hf
    go_upto_region 20 with fail
    all_goals
     go_wp2_with fail
     refine (ih code p f _ _ lo HR.out.cur (HCf.out wr HR.out) hp HDf.out).mono ?_
     rintro e w5 ⟨y, rfl, hy, hd5⟩
     have H5 := hid (HR.out.trans hd5)
     have X5 := hid ((hd5.block (g := w.heap.size) xl (by omega)).trans X3.out)
     have HY := hid hy
     have hyz : y.size <= 4700 := by omega
     clear hd5 hy
     go_wp2_with fail
     go_roundw
     case rel => exact ⟨i + 1, _, by omega, by go_num, rfl, by simp only [ByteArray.size_append]; have h1 := HS.out; have h2 := HY.out; have h3 : (⟨#[44]⟩ : ByteArray).size = 1 := rfl; have h4 : (i + 1) * C = i * C + C := Nat.succ_mul i C; omega, X5.out, H5.out⟩
     case measure => first | omega | (simp [intOf]; omega)
   ·obtain rfl : i = d.kids.length := by omega
    go_wp2_with fail
    go_ret
    exact ⟨_, rfl, by simp only [ByteArray.size_append]; have h1 := HS.out; have h2 := HL.out.1; have h3 : (⟨#[93]⟩ : ByteArray).size = 1 := rfl; omega, HR.out⟩
 ·have t1 : (d.kind == 1) = false := beq_eq_false_iff_ne.2 (by omega)
  have t2 : (d.kind == 2) = false := beq_eq_false_iff_ne.2 (by omega)
  have t3 : (d.kind == 3) = false := beq_eq_false_iff_ne.2 (by omega)
  have t4 : (d.kind == 4) = false := beq_eq_false_iff_ne.2 (by omega)
  have t5 : (d.kind == 5) = false := beq_eq_false_iff_ne.2 (by omega)
  have hlen := HN.out hk
  clear hk
  obtain ⟨N, hN⟩ : ∃ N, N = d.kids.length := ⟨_, rfl⟩
  rw [<- hN] at hlen
  have HN2 := hid (And.intro hlen hN)
  have hN4 : N <= 4 := by have := HL.out.2.2; omega
  have hkl4 : d.kids.length <= 4 := HL.out.2.2
  clear hlen hN
  go_wp2_with fail
  go_loopw [8, 9] (fun s8 s9 wr => ∃ (i : Nat) (s : ByteArray), i <= N /\ s9 = .int .i64 ((N : Int) - 1 - i) /\ s8 = .string s /\ s.size <= 3 + i * E /\ wr.heap[w.heap.size]? = some (.cells #[.int .i64 d.kind, .bool d.flag, .int .i64 d.num, .string d.text, .slice A4 d.keys.length c4, .slice A5 d.kids.length c5] 34 (0, 0)) /\ Dr code p w wr) (fun _ s9 _ => (intOf s9 + 1).toNat)
  case atStart => exact ⟨0, _, Nat.zero_le _, by rw [HN2.out.2]; go_num, rfl, by simp only [ByteArray.size_append]; have h3 : (⟨#[123]⟩ : ByteArray).size = 1 := rfl; omega, X3.out, H2.out⟩
  case round =>
   clear x0 x1 x2 x3 x4 x5 xf xl
   obtain ⟨i, s, hi, rfl, rfl, hs, hX, hR⟩ := hrel
   have X3 := hid hX
   have HR := hid hR
   have HS := hid hs
   have hwr := hR.size
   have hsz : s.size <= 40000 := by have h9 : i * E <= 4 * 4828 := Nat.mul_le_mul (by omega) (by omega); omega
   clear hX hR hs
   obtain ⟨x0, x1, x2, x3, x4, x5, xf⟩ := row6 X3.out
   have xl := row_lt X3.out
   by_cases hlt : i < N
   ·obtain ⟨j, hj⟩ : ∃ j, j = N - 1 - i := ⟨_, rfl⟩
    have hjz : ((N : Int) - 1 - i) = (j : Int) := by omega
    rw [hjz]
    have hjk : j < d.kids.length := by have := HN2.out.2; omega
    have hj0 : (0 : Int) <= j := by omega
    have hj3 : j <= 4 := by omega
    have hj1 : (j : Int) < d.kids.length := by omega
    have hjk4 : j < d.keys.length := by have := HN2.out.1; have := HN2.out.2; omega
    have hj2 : (j : Int) < d.keys.length := by omega
    have HJn : Hid (((N : Int) - 1 - ((i + 1 : Nat) : Int)) = (j : Int) - 1) := hid (by omega)
    clear hjz hj
    obtain ⟨b, o, rfl, hblo, hb2, hcell⟩ := HA4.out (by omega)
    obtain ⟨key, hkey⟩ := exists_at hjk4
    obtain ⟨es', -, hcs, rfl, hks⟩ := hcell j key hkey
    have hbp : b ≠ p := by omega
    have hck := (HR.out.cell (o := o + j * 1 + 0) hb2 hbp).trans (hcs 0 (by omega))
    simp at hck
    have hbl : b < wr.heap.size := Nat.lt_of_lt_of_le hb2 hwr
    have hkw := HW.out.2.1 key (List.mem_of_getElem? hkey)
    have hkq : (quoteB key).size <= 122 := hkw.quote
    have hkz : key.size <= 1048576 := Nat.le_trans hkw.2 (by decide)
    clear hcs hcell hkey hkw
    obtain ⟨fb, fo, rfl, hflo, hfb2, hfcell⟩ := HA5.out (by omega)
    obtain ⟨f, hf⟩ := exists_at hjk
    obtain ⟨fs, -, hfc, hCf⟩ := hfcell j f hf
    obtain ⟨gA4, gc4, gA5, gc5, rfl, -⟩ := hCf.flat
    have hfp : fb ≠ p := by omega
    have fbl : fb < wr.heap.size := Nat.lt_of_lt_of_le hfb2 hwr
    have hc0 := (HR.out.cell (o := fo + j * 6 + 0) hfb2 hfp).trans (hfc 0 (by omega))
    have hc1 := (HR.out.cell (o := fo + j * 6 + 1) hfb2 hfp).trans (hfc 1 (by omega))
    have hc2 := (HR.out.cell (o := fo + j * 6 + 2) hfb2 hfp).trans (hfc 2 (by omega))
    have hc3 := (HR.out.cell (o := fo + j * 6 + 3) hfb2 hfp).trans (hfc 3 (by omega))
    have hc4 := (HR.out.cell (o := fo + j * 6 + 4) hfb2 hfp).trans (hfc 4 (by omega))
    have hc5 := (HR.out.cell (o := fo + j * 6 + 5) hfb2 hfp).trans (hfc 5 (by omega))
    simp at hc0 hc1 hc2 hc3 hc4 hc5
    have HCf := hid (fun (W : World) (h : Dr code p w W) => C_Tree.keep hCf (fun b o h1 h2 => h.cell (g := b) (o := o) h2 (by omega)) (Nat.le_refl _) h.size)
    have HDf := hid (HK.out f (List.mem_of_getElem? hf))
    clear hfc hfcell hCf hf
    go_wp2_with fail
    go_upto_region 26 with fail
    go_cut [8] from 81 to 99 (fun s8 wx => ∃ (y : ByteArray), s8 = .string y /\ y.size <= s.size + 125 + B /\ wx.heap[w.heap.size]? = some (.cells #[.int .i64 d.kind, .bool d.flag, .int .i64 d.num, .string d.text, .slice (some ⟨b, o, none⟩) d.keys.length c4, .slice (some ⟨fb, fo, none⟩) d.kids.length c5] 34 (0, 0)) /\ Dr code p w wx)
    case first =>
     have hk1 : ¬ 9223372036854775807 < s.size + (quoteB key).size := by omega
     have hk2 : ¬ 9223372036854775807 < s.size + (quoteB key).size + gap.size := by omega
     have hk3 : ¬ 9223372036854775807 < s.size + (quoteB key).size + gap.size + 1 := by omega
     go_wp2_with fail
     go_region_law (first | (go_simp; go_at_call 161; refine (c_spec_Quoted key _ hkz).mono ?_; rintro e wa ⟨rfl, hba⟩; have hbw : Below wr.heap.size wr wa := bel; obtain ⟨p0, p1, p2, p3, p4, p5, pf⟩ := row6 ((hba.block w.heap.size xl).trans X3.out); have pxl : w.heap.size < wa.heap.size := Nat.lt_of_lt_of_le xl hba.size; have gc0 := (hba.cell (p := ⟨fb, fo + j * 6, none⟩) fbl).trans hc0; have gc1 := (hba.cell (p := ⟨fb, fo + j * 6 + 1, none⟩) fbl).trans hc1; have gc2 := (hba.cell (p := ⟨fb, fo + j * 6 + 2, none⟩) fbl).trans hc2; have gc3 := (hba.cell (p := ⟨fb, fo + j * 6 + 3, none⟩) fbl).trans hc3; have gc4 := (hba.cell (p := ⟨fb, fo + j * 6 + 4, none⟩) fbl).trans hc4; have gc5 := (hba.cell (p := ⟨fb, fo + j * 6 + 5, none⟩) fbl).trans hc5; have fbl2 : fb < wa.heap.size := Nat.lt_of_lt_of_le fbl hba.size) | (go_simp; go_at_call 207; refine (ih code p f _ _ lo (((HR.out.step hbw).cur).below bel) ((HCf.out wa (HR.out.step hbw)).now bel) hp HDf.out).mono ?_; rintro e wb ⟨y, rfl, hy, hd5⟩; have hyz : y.size <= 4700 := (by omega); have hk4 : ¬ 9223372036854775807 < s.size + (quoteB key).size + gap.size + 1 + y.size := (by omega)))
     all_goals
      have HDb := hid (((HR.out.step hbw).step (bel : Below wa.heap.size wa _)).trans hd5)
      have hXb := hid ((hd5.block (g := w.heap.size) pxl (by omega)).trans ((hba.block w.heap.size xl).trans X3.out))
      have HY := hid hy
      clear hd5 hba hbw hy
      go_wp2_with fail
      go_meet
      exact ⟨_, rfl, by simp only [ByteArray.size_append]; have h1 := HY.out; have h3 : (⟨#[58]⟩ : ByteArray).size = 1 := rfl; omega, hXb.out, HDb.out⟩
    case rest =>
     obtain ⟨y, rfl, hy, hX, hR⟩ := hcut
     obtain ⟨wy, hwy⟩ : ∃ x, x = wc := ⟨_, rfl⟩
     rw [<- hwy] at hX hR ⊢
     have X4 := hid hX
     have H4 := hid hR
     have hyz : y.size <= 50000 := by omega
     have HY := hid hy
     clear hwy hX hR hy
     by_cases hj9 : (0 : Int) < j
     all_goals
      go_wp2_with fail
      go_roundw
      case rel => exact ⟨i + 1, _, by omega, by rw [HJn.out], rfl, by (try simp only [ByteArray.size_append]); have h1 := HY.out; have h2 := HS.out; have h3 : (⟨#[44]⟩ : ByteArray).size = 1 := rfl; have h4 : (i + 1) * E = i * E + E := Nat.succ_mul i E; omega, X4.out, H4.out⟩
      case measure => first | omega | (simp [intOf]; (try omega))
   ·obtain rfl : i = N := by omega
    have hd9 : decide ((0 : Int) <= (i : Int) - 1 - i) = false := decide_eq_false (by omega)
    go_wp2_with fail
    go_ret
    exact ⟨_, rfl, by simp only [ByteArray.size_append]; have h1 := HS.out; have h2 := HL.out.2.1; have h5 := HN2.out.2; have h3 : (⟨#[125]⟩ : ByteArray).size = 1 := rfl; rw [<- h5] at h2; omega, HR.out⟩
theorem all_loose : ∀ k, k <= 4 -> T_loose k
 | 0, _ => fun _ _ _ _ _ _ _ h _ _ => (C_Tree.none h).elim
 | k + 1, hk => of_loose k (by omega) (all_loose k (by omega))
theorem byte_of {y : Int} (h0 : 0 <= y) (h1 : y <= 255) : ∃ b : UInt8, y = (b.toNat : Int) := ⟨UInt8.ofNat y.toNat, by rw [UInt8.toNat_ofNat']; omega⟩
theorem frozen_cells {w : World} {g n m o : Nat} {cs : Array Value} {e : TypeId} (h : w.heap[g]? = some (.cells cs e (n, m))) (ho : o < n) : w.frozen? ⟨g, o, none⟩ = false := by
 unfold World.frozen?
 have e : decide (n <= o) = false := decide_eq_false (by omega)
 simp only [h, e, Bool.false_and]
theorem c_l04Spoilt (code : List UInt8) (p : Nat) (s : ByteArray) (w : World) (h : CurAt code p w) (hs : s.size <= 100000) :
  Calls Tryz.prog 166 #[.pointer (some ⟨p, 0, none⟩), .string s] w fun e w' => ∃ t : ByteArray, e = .returned (.string t) /\ t.size <= s.size + 1 /\ Dr code p w w' := by
 have hpl := h.lt
 have kc := fun (w : World) (s : ByteArray) => Lib.run_convert_string_bytes (P := Tryz.prog) w 9 28 5 s (u := .string) Tryz.underlying9 Tryz.underlying28 Tryz.underlying5
 rcases Nat.eq_zero_or_pos s.size with h0 | h0
 ·have h0i : ((s.size : Int) == 0) = true := beq_iff_eq.2 (by omega)
  have H := hid h
  clear h0 kc
  go_enter Tryz.func166, Tryz.ntmps166
  go_wp2_with fail
  go_ret
  exact ⟨_, rfl, (by show 1 <= s.size + 1; omega), Dr.refl H.out⟩
 ·have h0i : ((s.size : Int) == 0) = false := beq_eq_false_iff_ne.2 (by omega)
  have H := hid h
  clear h
  go_enter Tryz.func166, Tryz.ntmps166
  go_wp2_with fail
  obtain ⟨W, hW⟩ : ∃ W, W = bytesWorld w 5 s := ⟨_, rfl⟩
  rw [<- hW]
  have hB : ∀ t, t < s.size -> W.cell? ⟨w.heap.size, t, none⟩ = some (.int .u8 (s.data.toList.getD t 0).toNat) := fun t ht => by rw [hW]; exact Lib.bytesWorld_cell w 5 s t ht
  have hrow : ∃ cs m, W.heap[w.heap.size]? = some (.cells cs 5 (cs.size, m)) /\ s.size <= cs.size := ⟨_, _, by rw [hW]; exact Lib.bytesWorld_at_new w 5 s, by unfold bytesCells; simp⟩
  obtain ⟨cs, mm, hrow, hcz⟩ := hrow
  have hbw : Below w.heap.size w W := by rw [hW]; exact ⟨rfl, rfl, rfl, by rw [Lib.bytesWorld_size]; omega, fun j hj => Lib.bytesWorld_at_old w 5 s j hj⟩
  have hl := row_lt hrow
  have HR := hid hrow
  have HBt := hid hB
  have H1 := hid ((Dr.refl H.out).step hbw)
  obtain ⟨g, hg⟩ : ∃ g, g = w.heap.size := ⟨_, rfl⟩
  obtain ⟨cp, hcp⟩ : ∃ cp, cp = grownCap w s.size 0 5 := ⟨_, rfl⟩
  rw [<- hg, <- hcp]
  rw [<- hg] at HBt hl HR
  have hgp : g ≠ p := by omega
  have hgw : w.heap.size <= g := by omega
  clear hW hB hcp kc hrow hbw hg
  refine (c_l01Below code p s.size _ H1.out.cur (by omega)).mono ?_
  rintro e w2 ⟨k0, rfl, hk0, hk1, -, hd2⟩
  obtain ⟨k, rfl⟩ : ∃ k : Nat, k0 = k := ⟨k0.toNat, by omega⟩
  have hk : k < s.size := by have := hk1 (by omega); omega
  have H2 := hid (H1.out.trans hd2)
  have D2 := hid hd2
  clear hd2 hk1
  go_wp2_with fail
  refine (c_l01Below code p 4 _ H2.out.cur (by omega)).mono ?_
  rintro e w3 ⟨x, rfl, hx0, hx1, -, hd3⟩
  have H3 := hid (H2.out.trans hd3)
  have D3 := hid (D2.out.trans hd3)
  have hx2 := hx1 (by decide)
  clear hd3 hx1
  have hxx : x = 0 ∨ x = 1 ∨ 2 <= x := by omega
  rcases hxx with q0 | q1 | q2
  ·subst q0
   clear hx0 hx2
   go_wp2_with fail
   go_ret
   exact ⟨_, rfl, by simp; omega, H3.out⟩
  ·subst q1
   clear hx0 hx2
   go_wp2_with fail
   refine (c_l01Byte code p _ H3.out.cur).mono ?_
   rintro e w4 ⟨y, rfl, hy0, hy1, hd4⟩
   obtain ⟨b, rfl⟩ := byte_of hy0 hy1
   have H4 := hid (H3.out.trans hd4)
   have kb := bytes_text w4 [b] 1 rfl #[.int .u8 (b.toNat : Int)] rfl w4.heap.size rfl
   clear hd4
   go_wp2_with fail
   go_ret
   exact ⟨_, rfl, by rw [ByteArray.size_append]; exact Nat.le_refl _, H4.out.alloc _⟩
  ·have f0 : (x == 0) = false := beq_eq_false_iff_ne.2 (by omega)
   have f1 : (x == 1) = false := beq_eq_false_iff_ne.2 (by omega)
   clear hx0 hx2 q2
   go_wp2_with fail
   refine (c_l01Byte code p _ H3.out.cur).mono ?_
   rintro e w4 ⟨y, rfl, hy0, hy1, hd4⟩
   obtain ⟨b, rfl⟩ := byte_of hy0 hy1
   have H4 := hid (H3.out.trans hd4)
   have D4 := hid (D3.out.trans hd4)
   have hrow4 := (D4.out.block (g := g) hl hgp).trans HR.out
   have hfz := frozen_cells hrow4 (o := k) (by omega)
   have hl4 := row_lt hrow4
   have hck : w4.cell? ⟨g, k, none⟩ = some (.int .u8 (s.data.toList.getD k 0).toNat) := (D4.out.cell (o := k) hl hgp).trans (HBt.out k hk)
   have hkc0 : (0 : Int) <= k := by omega
   have hkc1 : (k : Int) < s.size := by omega
   have hkb : (convert 28 9 (.slice (some ⟨g, 0, none⟩) s.size cp)).run Tryz.prog (w4.setCell ⟨g, k, none⟩ (.int .u8 (b.toNat : Int))) = .ok (.string ⟨(s.data.toList.set k b).toArray⟩) (w4.setCell ⟨g, k, none⟩ (.int .u8 (b.toNat : Int))) := by
    have hlen : s.size = (s.data.toList.set k b).length := by rw [List.length_set]; exact Array.length_toList.symm
    rw [hlen]
    refine run_convert_bytes_back _ 28 9 5 ⟨g, 0, none⟩ cp (s.data.toList.set k b) Tryz.underlying28 Tryz.underlying5 Tryz.underlying9 (fun j hj => ?_)
    have hjs : j < s.size := by rw [hlen]; exact hj
    have hjl : j < s.data.toList.length := by rw [List.length_set] at hj; exact hj
    have e2 : (⟨g, 0, none⟩ : Addr).add j = ⟨g, j, none⟩ := by unfold Addr.add; simp; try (intro h; omega)
    rw [e2]
    by_cases hjk : j = k
    ·subst hjk
     rw [World.cell?_setCell_same _ _ _ hck, List.getElem_set_self]
    ·rw [World.cell?_setCell_other _ _ _ _ (fun e => hjk (by injection e with e3 e4; exact e4.symm)), (D4.out.cell (g := g) (o := j) hl hgp).trans (HBt.out j hjs), List.getElem_set_ne (fun e => hjk e.symm), List.getD_eq_getElem?_getD, List.getElem?_eq_getElem hjl, Option.getD_some]
   clear hd4 hrow4
   go_wp2_with fail
   go_ret
   exact ⟨_, rfl, (by show (s.data.toList.set k b).toArray.size <= s.size + 1; rw [List.size_toArray, List.length_set]; exact Nat.le_trans (Nat.le_of_eq Array.length_toList) (Nat.le_succ _)), H4.out.set hpl hgw _⟩
theorem c_l09Braced (code : List UInt8) (p : Nat) (w : World) (h : CurAt code p w) :
  Calls Tryz.prog 129 #[.pointer (some ⟨p, 0, none⟩)] w fun e w' => ∃ s : ByteArray, e = .returned (.string s) /\ s.size <= 20000 /\ Dr code p w w' := by
 have h4 := all_tree 3 (by decide)
 rw [show ((3 + 1 : Nat) : Int) = 4 from rfl] at h4
 have H4 := hid h4
 have HL4 := hid (all_loose 4 (Nat.le_refl _))
 have HA := hid (show ∀ s ∈ ([⟨#[44]⟩, ⟨#[93]⟩, ⟨#[125]⟩, ⟨#[32, 49]⟩, ⟨#[34]⟩, ⟨#[116, 114, 117]⟩, ⟨#[123, 34, 97, 34, 58, 49, 44, 34, 97, 34, 58, 50, 125]⟩, ⟨#[255]⟩] : List ByteArray), s.size <= 20 by decide)
 have HB := hid (show ∀ s ∈ ([⟨#[]⟩, ⟨#[32]⟩, ⟨#[123, 34, 97, 34, 58, 49, 44, 34, 97, 34, 58, 50, 125]⟩, ⟨#[91, 49, 44, 93]⟩, ⟨#[123, 34, 97, 34, 125]⟩, ⟨#[123, 44, 125]⟩, ⟨#[91, 49, 32, 50, 93]⟩, ⟨#[123, 49, 58, 50, 125]⟩, ⟨#[110, 117, 108]⟩, ⟨#[91, 48, 49, 93]⟩, ⟨#[91, 49, 46, 48, 93]⟩, ⟨#[91, 91, 91, 91, 91, 91, 91, 91, 49, 93, 93, 93, 93, 93, 93, 93, 93]⟩, ⟨#[91, 91, 91, 91, 91, 91, 91, 49, 93, 93, 93, 93, 93, 93, 93]⟩, ⟨#[123, 34, 98, 34, 58, 49, 44, 34, 97, 34, 58, 123, 125, 125]⟩] : List ByteArray), s.size <= 20 by decide)
 have hpl := h.lt
 have hlb : looB 4 <= 19500 := by decide
 have H := hid h
 clear h4 h
 go_enter Tryz.func129, Tryz.ntmps129
 go_wp2_with fail
 refine (H4.out code p _ H.out).mono ?_
 rintro e w1 ⟨d, cs, rfl, hD, hO, hd⟩
 have HC := hid (hO.toC (lo := w.heap.size) (hi := w1.heap.size) (fun b hb => hb))
 have HD := hid (Loo.mk hD.shape hD.word)
 have H1 := hid hd
 clear hD hO hd
 go_wp2_with fail
 refine (HL4.out code p d cs _ w.heap.size H1.out.cur HC.out hpl HD.out).mono ?_
 rintro e w2 ⟨s, rfl, hs, hd2⟩
 have hs2 : s.size <= 19500 := Nat.le_trans hs hlb
 have H2 := hid (H1.out.trans hd2)
 clear hs hd2 hlb
 go_wp2_with fail
 refine (c_l01Below code p 8 _ H2.out.cur (by omega)).mono ?_
 rintro e w3 ⟨x, rfl, hx0, hx1, -, hd3⟩
 have H3 := hid (H2.out.trans hd3)
 clear hx1 hd3
 have hx : x = 0 ∨ x = 1 ∨ x = 2 ∨ 3 <= x := by omega
 rcases hx with rfl | rfl | rfl | hx
 ·go_wp2_with fail
  refine (c_l04Spoilt code p s _ H3.out.cur (by omega)).mono ?_
  rintro e w4 ⟨t, rfl, ht, hd4⟩
  have H4 := hid (H3.out.trans hd4)
  clear hd4
  go_wp2_with fail
  go_ret
  exact ⟨t, rfl, by omega, H4.out⟩
 ·go_wp2_with fail
  refine (c_l01Pick code p ([⟨#[44]⟩, ⟨#[93]⟩, ⟨#[125]⟩, ⟨#[32, 49]⟩, ⟨#[34]⟩, ⟨#[116, 114, 117]⟩, ⟨#[123, 34, 97, 34, 58, 49, 44, 34, 97, 34, 58, 50, 125]⟩, ⟨#[255]⟩] : List ByteArray) _ w3.heap.size (w3.alloc (.cells #[.string ⟨#[44]⟩, .string ⟨#[93]⟩, .string ⟨#[125]⟩, .string ⟨#[32, 49]⟩, .string ⟨#[34]⟩, .string ⟨#[116, 114, 117]⟩, .string ⟨#[123, 34, 97, 34, 58, 49, 44, 34, 97, 34, 58, 50, 125]⟩, .string ⟨#[255]⟩] 9)) (H3.out.cur.below (ext_alloc (Below.refl _ _))) (sl_lit w3 ([⟨#[44]⟩, ⟨#[93]⟩, ⟨#[125]⟩, ⟨#[32, 49]⟩, ⟨#[34]⟩, ⟨#[116, 114, 117]⟩, ⟨#[123, 34, 97, 34, 58, 49, 44, 34, 97, 34, 58, 50, 125]⟩, ⟨#[255]⟩] : List ByteArray) (fun s hs => Nat.le_trans (HA.out s hs) (by decide)) (by decide) 9 _ rfl) (by have := H3.out.cur.lt; omega) (by decide) (by decide)).mono ?_
  rintro e w4 ⟨t, rfl, ht, hd4⟩
  have ht2 := HA.out t ht
  have H4 := hid (Dr.trans H3.out hd4.cut)
  clear hd4 ht
  go_wp2_with fail
  go_ret
  exact ⟨_, rfl, by rw [ByteArray.size_append]; omega, H4.out⟩
 ·go_wp2_with fail
  refine (c_l01Pick code p ([⟨#[]⟩, ⟨#[32]⟩, ⟨#[123, 34, 97, 34, 58, 49, 44, 34, 97, 34, 58, 50, 125]⟩, ⟨#[91, 49, 44, 93]⟩, ⟨#[123, 34, 97, 34, 125]⟩, ⟨#[123, 44, 125]⟩, ⟨#[91, 49, 32, 50, 93]⟩, ⟨#[123, 49, 58, 50, 125]⟩, ⟨#[110, 117, 108]⟩, ⟨#[91, 48, 49, 93]⟩, ⟨#[91, 49, 46, 48, 93]⟩, ⟨#[91, 91, 91, 91, 91, 91, 91, 91, 49, 93, 93, 93, 93, 93, 93, 93, 93]⟩, ⟨#[91, 91, 91, 91, 91, 91, 91, 49, 93, 93, 93, 93, 93, 93, 93]⟩, ⟨#[123, 34, 98, 34, 58, 49, 44, 34, 97, 34, 58, 123, 125, 125]⟩] : List ByteArray) _ w3.heap.size (w3.alloc (.cells #[.string ⟨#[]⟩, .string ⟨#[32]⟩, .string ⟨#[123, 34, 97, 34, 58, 49, 44, 34, 97, 34, 58, 50, 125]⟩, .string ⟨#[91, 49, 44, 93]⟩, .string ⟨#[123, 34, 97, 34, 125]⟩, .string ⟨#[123, 44, 125]⟩, .string ⟨#[91, 49, 32, 50, 93]⟩, .string ⟨#[123, 49, 58, 50, 125]⟩, .string ⟨#[110, 117, 108]⟩, .string ⟨#[91, 48, 49, 93]⟩, .string ⟨#[91, 49, 46, 48, 93]⟩, .string ⟨#[91, 91, 91, 91, 91, 91, 91, 91, 49, 93, 93, 93, 93, 93, 93, 93, 93]⟩, .string ⟨#[91, 91, 91, 91, 91, 91, 91, 49, 93, 93, 93, 93, 93, 93, 93]⟩, .string ⟨#[123, 34, 98, 34, 58, 49, 44, 34, 97, 34, 58, 123, 125, 125]⟩] 9)) (H3.out.cur.below (ext_alloc (Below.refl _ _))) (sl_lit w3 ([⟨#[]⟩, ⟨#[32]⟩, ⟨#[123, 34, 97, 34, 58, 49, 44, 34, 97, 34, 58, 50, 125]⟩, ⟨#[91, 49, 44, 93]⟩, ⟨#[123, 34, 97, 34, 125]⟩, ⟨#[123, 44, 125]⟩, ⟨#[91, 49, 32, 50, 93]⟩, ⟨#[123, 49, 58, 50, 125]⟩, ⟨#[110, 117, 108]⟩, ⟨#[91, 48, 49, 93]⟩, ⟨#[91, 49, 46, 48, 93]⟩, ⟨#[91, 91, 91, 91, 91, 91, 91, 91, 49, 93, 93, 93, 93, 93, 93, 93, 93]⟩, ⟨#[91, 91, 91, 91, 91, 91, 91, 49, 93, 93, 93, 93, 93, 93, 93]⟩, ⟨#[123, 34, 98, 34, 58, 49, 44, 34, 97, 34, 58, 123, 125, 125]⟩] : List ByteArray) (fun s hs => Nat.le_trans (HB.out s hs) (by decide)) (by decide) 9 _ rfl) (by have := H3.out.cur.lt; omega) (by decide) (by decide)).mono ?_
  rintro e w4 ⟨t, rfl, ht, hd4⟩
  have ht2 := HB.out t ht
  have H4 := hid (Dr.trans H3.out hd4.cut)
  clear hd4 ht
  go_wp2_with fail
  go_ret
  exact ⟨_, rfl, by omega, H4.out⟩
 ·have f0 : (x == 0) = false := beq_eq_false_iff_ne.2 (by omega)
  have f1 : (x == 1) = false := beq_eq_false_iff_ne.2 (by omega)
  have f2 : (x == 2) = false := beq_eq_false_iff_ne.2 (by omega)
  go_wp2_with fail
  go_ret
  exact ⟨_, rfl, by omega, H3.out⟩
def u8cs (bs : List UInt8) : Array Value := (bs.map fun b => Value.int .u8 (b.toNat : Int)).toArray
theorem u8cs_zero (n : Nat) : madeCells (Value.int .u8 0).cells (n * 1) = u8cs (List.replicate n 0) := by
 rw [Nat.mul_one, u8cs, List.map_replicate]
 apply Array.ext
 ·simp [size_madeCells]
 ·intro i h1 h2
  simp [madeCells, Value.cells, Nat.mod_one]
theorem u8cs_set (bs : List UInt8) (i : Nat) (x : UInt8) : (u8cs bs).setIfInBounds i (.int .u8 (x.toNat : Int)) = u8cs (bs.set i x) := by
 unfold u8cs
 rw [List.setIfInBounds_toArray, List.map_set]
theorem u8cs_get {w : World} {g i : Nat} {bs : List UInt8} {t : TypeId} (h : w.heap[g]? = some (.cells (u8cs bs) t (0, 0))) (hi : i < bs.length) : w.cell? ⟨g, i, none⟩ = some (.int .u8 (bs[i].toNat : Int)) := by
 rw [cell_of_row _ _ _ _ _ _ h]
 simp [u8cs, hi]
theorem c_l01Long (n : Nat) (x : UInt8) (w : World) (hn : n <= 100000) :
  Calls Tryz.prog 89 #[.int .i64 n, .int .u8 (x.toNat : Int)] w fun e w' => ∃ s : ByteArray, e = .returned (.string s) /\ s.size = n /\ Below w.heap.size w w' := by
 have hmk := run_make_slice (P := Tryz.prog) (z := .int .u8 0) (size := 1) (bytes := 1) Tryz.underlying28 (by kernel_rfl) n (by omega) (by omega)
 rw [u8cs_zero] at hmk
 go_enter Tryz.func89, Tryz.ntmps89
 go_wp2_with fail
 go_loopw [6] (fun s6 wr => ∃ (i : Nat) (bs : List UInt8), s6 = .int .i64 i /\ i <= n /\ bs.length = n /\ wr.heap[w.heap.size]? = some (.cells (u8cs bs) 5 (0, 0)) /\ Below w.heap.size w wr) (fun s6 _ => n - (intOf s6).toNat)
 case atStart => exact ⟨0, _, rfl, Nat.zero_le _, List.length_replicate, heap_alloc_new _ _, bel⟩
 case round =>
  obtain ⟨i, bs, rfl, hi, hbs, hrow, hb⟩ := hrel
  have HX := hid hb
  have HR := hid hrow
  by_cases hlt : i < n
  ·have hltd : decide ((i : Int) < n) = true := decide_eq_true (by omega)
   have hcell := u8cs_get hrow (i := i) (by omega)
   have hfz := frozen_of_row wr w.heap.size i _ _ hrow
   have hl := row_lt hrow
   clear hb hrow
   go_wp2_with fail
   go_roundw
   case rel => exact ⟨i + 1, bs.set i x, by go_num, by omega, by rw [List.length_set]; exact hbs, by rw [<- u8cs_set]; exact heap_setCell_same _ _ _ _ _ _ HR.out, ext_setCell (Nat.le_refl _) HX.out⟩
   case measure => first | omega | (simp [intOf]; omega)
  ·have hltd : decide ((i : Int) < n) = false := decide_eq_false (by omega)
   have hkb : (convert 28 9 (.slice (some ⟨w.heap.size, 0, none⟩) n n)).run Tryz.prog wr = .ok (.string ⟨bs.toArray⟩) wr := by
    rw [<- hbs]
    refine run_convert_bytes_back _ 28 9 5 ⟨w.heap.size, 0, none⟩ bs.length bs Tryz.underlying28 Tryz.underlying5 Tryz.underlying9 (fun j hj => ?_)
    have e2 : (⟨w.heap.size, 0, none⟩ : Addr).add j = ⟨w.heap.size, j, none⟩ := by unfold Addr.add; simp; try (intro h; omega)
    rw [e2]
    exact u8cs_get hrow hj
   clear hb hrow
   go_wp2_with fail
   go_ret
   exact ⟨_, rfl, hbs, HX.out⟩
theorem c_l10Any (code : List UInt8) (v : Value) (lo : Nat) (w : World) (hs : SlOf C_Byte 1 lo w.heap.size w code v) (hn : code.length <= 1048576) :
  Calls Tryz.prog 71 #[v] w fun e w' => ∃ s : ByteArray, e = .returned (.string s) /\ s.size <= 20000 /\ Below w.heap.size w w' := by
 have Hs := hid hs
 obtain ⟨A, c, rfl, -⟩ := hs
 go_enter Tryz.func71, Tryz.ntmps71
 go_wp2_with fail
 refine (c_l01New code _ lo _ Hs.out hn).mono ?_
 rintro e w1 ⟨p, rfl, hp, hc, hb⟩
 have HB := hid hb
 have H0 := hid hc
 have fin : ∀ (x : World), Dr code p w1 x -> Below w.heap.size w x := fun x hd => hb.trans (hd.below hb.size hp)
 have Hfin := hid fin
 clear hb hc fin
 go_wp2_with fail
 refine (c_l01Once code p 20 _ H0.out (by omega)).mono ?_
 rintro e w2 ⟨q, rfl, hd2⟩
 have H2 := hid hd2
 clear hd2
 cases q
 ·go_wp2_with fail
  refine (c_l01Once code p 20 _ H2.out.cur (by omega)).mono ?_
  rintro e w3 ⟨q, rfl, hd3⟩
  have H3 := hid (H2.out.trans hd3)
  clear hd3
  cases q
  ·go_wp2_with fail
   refine (c_l09Braced code p _ H3.out.cur).mono ?_
   rintro e w4 ⟨s, rfl, hs, hd4⟩
   have H4 := hid (H3.out.trans hd4)
   clear hd4
   go_wp2_with fail
   go_ret
   exact ⟨s, rfl, hs, Hfin.out _ H4.out⟩
  ·go_wp2_with fail
   refine (c_l01Below code p 2 _ H3.out.cur (by omega)).mono ?_
   rintro e w4 ⟨x, rfl, hx0, hx1, -, hd4⟩
   obtain ⟨k, rfl⟩ : ∃ k : Nat, x = k := ⟨x.toNat, by omega⟩
   have hx2 := hx1 (by omega)
   have H4 := hid (H3.out.trans hd4)
   have K1 := hid (c_l01Long (400 + k) 97 w4 (by omega))
   have e2 : ((97 : UInt8).toNat : Int) = 97 := rfl
   rw [e2] at K1
   clear hx1 hx0 hd4 e2
   go_wp2_with fail
   rw [show (400 : Int) + (k : Int) = ((400 + k : Nat) : Int) by omega]
   refine K1.out.mono ?_
   rintro e w5 ⟨s, rfl, hs, hb5⟩
   have H5 := hid (H4.out.step hb5)
   clear hb5 K1
   go_wp2_with fail
   refine (c_l01Below code p 2 _ H5.out.cur (by omega)).mono ?_
   rintro e w6 ⟨y, rfl, hy0, hy1, -, hd6⟩
   obtain ⟨j, rfl⟩ : ∃ j : Nat, y = j := ⟨y.toNat, by omega⟩
   have hy2 := hy1 (by omega)
   have H6 := hid (H5.out.trans hd6)
   have K2 := hid (c_l01Long (400 + j) 98 w6 (by omega))
   have e2 : ((98 : UInt8).toNat : Int) = 98 := rfl
   rw [e2] at K2
   clear hy1 hy0 hd6 e2
   go_wp2_with fail
   rw [show (400 : Int) + (j : Int) = ((400 + j : Nat) : Int) by omega]
   refine K2.out.mono ?_
   rintro e w7 ⟨t, rfl, ht, hb7⟩
   have H7 := hid (H6.out.step hb7)
   have hs2 : s.size <= 402 := by omega
   have ht2 : t.size <= 402 := by omega
   clear hb7 K2
   go_wp2_with fail
   go_ret
   exact ⟨_, rfl, by simp only [ByteArray.size_append]; show 2 + s.size + 3 + t.size + 2 <= _; omega, Hfin.out _ H7.out⟩
 ·go_wp2_with fail
  go_loopw [4, 5] (fun s4 s5 wr => ∃ (s : ByteArray) (i : Nat), s4 = .string s /\ s5 = .int .i64 i /\ i <= 300 /\ s.size <= 2 + 2 * i /\ Dr code p w1 wr) (fun _ s5 _ => 300 - (intOf s5).toNat)
  case atStart => exact ⟨_, 0, rfl, rfl, by omega, (by show 2 <= 2 + 2 * 0; omega), H2.out⟩
  case round =>
   obtain ⟨s, i, rfl, rfl, hi, hs, hr⟩ := hrel
   have HR := hid hr
   clear hr
   have hs2 : s.size <= 602 := by omega
   go_wp2_with fail
   refine (c_l01Below code p 3 _ HR.out.cur (by omega)).mono ?_
   rintro e w3 ⟨x, rfl, hx0, hx1, -, hd3⟩
   have hx2 := hx1 (by omega)
   have H3 := hid (HR.out.trans hd3)
   clear hx1 hd3
   by_cases hlt : (i : Int) < 298 + x
   ·have hltd : decide ((i : Int) < 298 + x) = true := decide_eq_true hlt
    go_wp2_with fail
    go_roundw
    case rel => exact ⟨_, i + 1, rfl, by go_num, by omega, (by rw [ByteArray.size_append]; show s.size + 2 <= _; omega), H3.out⟩
    case measure => first | omega | (simp [intOf]; omega)
   ·have hltd : decide ((i : Int) < 298 + x) = false := decide_eq_false hlt
    go_wp2_with fail
    go_ret
    exact ⟨_, rfl, (by rw [ByteArray.size_append]; show s.size + 1 <= _; omega), Hfin.out _ H3.out⟩
theorem c_DrawReadBraced (code : List UInt8) (v : Value) (lo : Nat) (w : World) (hs : SlOf C_Byte 1 lo w.heap.size w code v) (hn : code.length <= 1048576) :
  Calls Tryz.prog 33 #[v] w fun e w' => ∃ s : ByteArray, e = .returned (.string s) /\ s.size <= 20000 /\ Below w.heap.size w w' := by
 have Hs := hid hs
 obtain ⟨A, c, rfl, -⟩ := hs
 go_enter Tryz.func33, Tryz.ntmps33
 go_wp2_with fail
 refine (c_l10Any code _ lo _ Hs.out hn).mono ?_
 rintro e w1 ⟨s, rfl, hs, hb⟩
 have HB := hid hb
 clear hb
 go_wp2_with fail
 go_ret
 exact ⟨s, rfl, hs, HB.out⟩
theorem bb {a b c : World} (h : Below a.heap.size a b) (k : Below b.heap.size b c) : Below a.heap.size a c := h.trans (k.mono h.size)
structure Four (w : World) : Prop where
 pow : Pow w
 err : ErrR w
 tab : Tabs w
 cas : CTab w
theorem Four.below {w w' : World} (h : Four w) (hb : Below w.heap.size w w') : Four w' := ⟨h.pow.below hb, h.err.below hb, h.tab.below hb, h.cas.below hb⟩
theorem Four.callS {a b : ByteArray} (ha : a.size <= 1048576) (hb : b.size <= 1048576) {w : World} (hC : Four w) (W : World) (h : Below w.heap.size w W) : Calls Tryz.prog 38 #[.string a, .string b] W fun e w' => e = .returned (.bool (sameB a b)) /\ Below W.heap.size W w' := by
 have hC := hC.below h
 exact c_impl_BracedSame a b W ha hb hC.cas hC.tab hC.err
theorem Four.callN {a x : ByteArray} {fc fa : Int} {ft : ByteArray} (ha : a.size <= 1048576) (e : brN a = (x, ⟨fc, fa, ft⟩)) {w : World} (hC : Four w) (W : World) (h : Below w.heap.size w W) : Calls Tryz.prog 36 #[.string a] W fun e w' => e = .returned (.tuple #[.string x, .agg #[.int .i64 fc, .int .i64 fa, .string ft]]) /\ Below W.heap.size W w' := by
 have hC := hC.below h
 have := c_impl_BracedNormal a W ha hC.pow hC.err hC.tab hC.cas
 rw [e] at this
 exact this
theorem Four.callQ {C0 : World} (s t : ByteArray) (W : World) (q : Bool) (hs : s.size <= 1048576) (ht : t.size <= 1048576) (hq : sameB s t = q) (hC : Four C0) (h : Below C0.heap.size C0 W) : Calls Tryz.prog 38 #[.string s, .string t] W fun e w' => e = .returned (.bool q) /\ Below W.heap.size W w' := by
 rw [<- hq]
 exact hC.callS hs ht W h
end Go.Proofs.YtohcpifekcehjaaGreatDoor
