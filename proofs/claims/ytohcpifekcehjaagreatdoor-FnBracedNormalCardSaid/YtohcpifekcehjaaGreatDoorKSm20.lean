/- Steps to FnBracedNormal. No conditions. -/
import Derived.Test.YtohcpifekcehjaaGreatDoorKSm19
import Derived.Test.YtohcpifekcehjaaGreatDoorKSm18
import Derived.Test.YtohcpifekcehjaaGreatDoorKSm11
set_option maxHeartbeats 16000000
set_option maxRecDepth 20000
namespace Go.Proofs.YtohcpifekcehjaaGreatDoor
open Go.RowKit Go.Lib
theorem readB_two (s : ByteArray) : ((readB s).1 = flt0 /\ okT 10 (readB s).2 = true) ∨ (¬ (readB s).1.code = 0 /\ (readB s).2 = treeZ) := by
 by_cases hc : (readB s).1.code = 0
 ·refine .inl ⟨?_, (readB_ok hc).1⟩
  by_cases hf : (signsF s).2.code = 0
  ·rcases hq : readJ (signsF s).1 s.size (2 * (signsF s).1.length + 4) (.value 1) 0 0 with f | ⟨t, p, m⟩
   ·obtain ⟨hG, -, -⟩ := signsF_cost hf
    have h2 := readJ_good (signsF s).1 s.size (2 * (signsF s).1.length + 4) (.value 1) 0 0 (Nat.zero_le _) (Nat.zero_le _) (by unfold needJ; simp only; omega)
    rw [hq] at h2
    rw [readB_bad hf hq] at hc
    exact absurd hc h2
   ·by_cases hp : p < (signsF s).1.length
    ·rw [readB_more hf hq hp] at hc
     exact absurd (show (4 : Int) = 0 from hc) (by decide)
    ·rw [readB_good hf hq hp]
  ·rw [readB_sign hf] at hc
   exact absurd hc hf
 ·refine .inr ⟨hc, ?_⟩
  by_cases hf : (signsF s).2.code = 0
  ·rcases hq : readJ (signsF s).1 s.size (2 * (signsF s).1.length + 4) (.value 1) 0 0 with f | ⟨t, p, m⟩
   ·rw [readB_bad hf hq]
   ·by_cases hp : p < (signsF s).1.length
    ·rw [readB_more hf hq hp]
    ·rw [readB_good hf hq hp] at hc
     exact absurd rfl hc
  ·rw [readB_sign hf]
structure BN (s n : ByteArray) (fc fa : Int) (fp : ByteArray) (d : TreeD) : Prop where
 read : readB s = (⟨fc, fa, fp⟩, d)
 norm : brN s = (n, ⟨fc, fa, fp⟩)
 eq : eqTr 10 d d = true
 size : n.size <= s.size
 good : fc = 0 -> okT 10 d = true /\ brN n = (n, ⟨0, 0, ⟨#[]⟩⟩) /\ sameB s n = true
 bad : ¬ fc = 0 -> n = ⟨#[]⟩ /\ d = treeZ /\ sameB s s = false
theorem BN.ex (s : ByteArray) : ∃ n fc fa fp d, BN s n fc fa fp d := by
 rcases readB_two s with ⟨h1, h2⟩ | ⟨h1, h2⟩
 ·have hc : (readB s).1.code = 0 := by rw [h1]; rfl
  have hn := brN_good hc
  have e : (brN s).2 = flt0 := by rw [hn]
  refine ⟨(brN s).1, 0, 0, ⟨#[]⟩, (readB s).2, ?_, ?_, eqTr_refl 10 _ (okT_parts h2).2, brN_size hc, fun _ => ⟨h2, ?_, sameB_self hc⟩, fun h => absurd rfl h⟩
  ·exact Prod.ext h1 rfl
  ·exact Prod.ext rfl e
  ·rw [brN_again hc]; exact Prod.ext rfl e
 ·have hn := brN_bad h1
  refine ⟨⟨#[]⟩, (readB s).1.code, (readB s).1.at', (readB s).1.path, treeZ, ?_, ?_, ?_, Nat.zero_le _, fun h => absurd h h1, fun _ => ⟨rfl, rfl, sameB_bad h1⟩⟩
  ·exact Prod.ext rfl h2
  ·rw [hn]
  ·rw [eqTr_succ, eqL_refl (eq := eqStr) (fun x hx => by cases hx), eqL_refl (eq := eqTr 9) (fun x hx => by cases hx)]
   simp
theorem C_treeZ (W : World) : C_Tree 10 0 W.heap.size W treeZ [.int .i64 0, .bool false, .int .i64 0, .string ⟨#[]⟩, .slice none 0 0, .slice none 0 0] :=
 (own_leaf (S := fun x => x < W.heap.size) (by unfold I64; decide) (by unfold I64; decide) (by decide)).toC (fun _ hb => ⟨Nat.zero_le _, hb⟩)
theorem Four.readI {C0 : World} (hC : Four C0) {s n : ByteArray} {fc fa : Int} {fp : ByteArray} {d : TreeD} (b : BN s n fc fa fp d) (hs : s.size <= 1048576) (W : World) (h : Below C0.heap.size C0 W) : Calls Tryz.prog 34 #[.string s] W (ReadE (⟨fc, fa, fp⟩, d) W) := by
 have hC := hC.below h
 have := c_impl_ReadBraced s W hs hC.cas hC.tab hC.err
 rw [b.read] at this
 exact this
theorem BN.readS {s n : ByteArray} {fc fa : Int} {fp : ByteArray} {d : TreeD} (b : BN s n fc fa fp d) (hs : s.size <= 1048576) (W : World) : Calls Tryz.prog 35 #[.string s] W (ReadE (⟨fc, fa, fp⟩, d) W) := by
 have := c_spec_ReadBraced s W hs
 rw [b.read] at this
 exact this
theorem Four.okS {C0 : World} (hC : Four C0) {s n : ByteArray} {fc fa : Int} {fp : ByteArray} {d : TreeD} {q : Bool} (b : BN s n fc fa fp d) (hq : (fc == 0) = q) (hs : s.size <= 1048576) (W : World) (h : Below C0.heap.size C0 W) : Calls Tryz.prog 37 #[.string s] W fun e w' => e = .returned (.bool q) /\ Below W.heap.size W w' := by
 have hC := hC.below h
 have := c_impl_BracedOk s W hs hC.cas hC.tab hC.err
 have e : okB s = q := by unfold okB; rw [b.read]; exact hq
 rw [e] at this
 exact this
theorem BN.okTree {s n : ByteArray} {fc fa : Int} {fp : ByteArray} {d : TreeD} (b : BN s n fc fa fp d) (hf : fc = 0) {cs : List Value} {W : World} (h : C_Tree 10 0 W.heap.size W d cs) : Calls Tryz.prog 22 #[.agg cs.toArray] W fun e w' => e = .returned (.bool true) /\ Below W.heap.size W w' := by
 have h1 := (b.good hf).1
 have := c_spec_TreeOk 10 d cs W 0 h (Nat.le_trans (okT_parts h1).1 (by decide))
 rw [h1] at this
 exact this
theorem BN.same {s n : ByteArray} {fc fa : Int} {fp : ByteArray} {d : TreeD} (b : BN s n fc fa fp d) {ca cb : List Value} {W : World} (h : C_Tree 10 0 W.heap.size W d ca) (k : C_Tree 10 0 W.heap.size W d cb) : Calls Tryz.prog 20 #[.agg ca.toArray, .agg cb.toArray] W fun e w' => e = .returned (.bool true) /\ Below W.heap.size W w' := by
 have := all_sameS 10 d d ca cb W 0 0 h k
 rw [b.eq] at this
 exact this
theorem w_FnBracedNormal (d0 : List UInt8) (v0 : Value) (w : World) (h0 : R_bytes w d0 v0) (hP : Pow w) (hE : ErrR w) (hT : Tabs w) (hV : CTab w) :
  Calls Tryz.prog 7 #[v0] w fun e w' => e = .returned (.bool true) /\ Below w.heap.size w w' := by
 have H0 := hid h0
 obtain ⟨A, c, rfl, -⟩ := h0
 have HC := hid (Four.mk hP hE hT hV)
 clear hP hE hT hV
 by_cases hq : d0.length <= 1048576
 ·go_enter Tryz.func7, Tryz.ntmps7
  go_wp2_with (go_at_call 16; refine (c_laws_big_no d0 A c _ hq).mono ?_; rintro e w' ⟨rfl, rfl⟩)
  refine (c_DrawReadBraced d0 _ 0 _ H0.out hq).mono ?_
  rintro e w1 ⟨s, rfl, hs, hb1⟩
  have hs2 : s.size <= 1048576 := by omega
  obtain ⟨n, fc, fa, fp, d, hbn⟩ := BN.ex s
  have HB := hid hbn
  have hn2 : n.size <= 1048576 := by have := hbn.size; omega
  have H1 := hid hb1
  clear hb1 hs hbn
  go_wp2_with fail
  refine (Four.readI HC.out HB.out hs2 w1 H1.out).mono ?_
  rintro e w2 ⟨cs, rfl, hO, hb⟩
  obtain ⟨A4, a4, A5, a5, rfl, -⟩ := hO.flat
  have HCt := hid (fun (W : World) (h : Below w2.heap.size w2 W) => (hO.toC (lo := 0) (hi := w2.heap.size) (fun b hb => ⟨Nat.zero_le _, hb.2⟩)).now h)
  have H2 := hid (bb H1.out hb)
  clear hb hO
  simp only [fltC]
  go_wp2_with fail
  obtain ⟨w3, hw3⟩ : ∃ W, W = (w2.alloc (.cells #[.int .i64 d.kind, .bool d.flag, .int .i64 d.num, .string d.text, .slice A4 d.keys.length a4, .slice A5 d.kids.length a5] 34)).alloc (.cells #[.int .i64 fc, .int .i64 fa, .string fp] 23) := ⟨_, rfl⟩
  have B3 : Hid (Below w2.heap.size w2 w3) := hid (by rw [hw3]; exact bel)
  have X3 : Hid (w3.heap[w2.heap.size]? = some (.cells #[.int .i64 d.kind, .bool d.flag, .int .i64 d.num, .string d.text, .slice A4 d.keys.length a4, .slice A5 d.kids.length a5] 34 (0, 0))) := hid (by rw [hw3]; exact (Below.heap_alloc _ _ _ (by simp)).trans (heap_at rfl))
  have Y3 : Hid (w3.heap[w2.heap.size + 1]? = some (.cells #[.int .i64 fc, .int .i64 fa, .string fp] 23 (0, 0))) := hid (by rw [hw3]; exact heap_at (by simp))
  rw [<- hw3]
  clear hw3
  have H3 := hid (bb H2.out B3.out)
  refine (BN.readS HB.out hs2 w3).mono ?_
  rintro e w4 ⟨cs, rfl, hO, hb⟩
  obtain ⟨D4, e4, D5, e5, rfl, -⟩ := hO.flat
  have HCw := hid (fun (W : World) (h : Below w4.heap.size w4 W) => (hO.toC (lo := 0) (hi := w4.heap.size) (fun b hb => ⟨Nat.zero_le _, hb.2⟩)).now h)
  have B4 := hid hb
  have H4 := hid (bb H3.out hb)
  clear hb hO
  simp only [fltC]
  go_wp2_with fail
  obtain ⟨w5, hw5⟩ : ∃ W, W = (w4.alloc (.cells #[.int .i64 d.kind, .bool d.flag, .int .i64 d.num, .string d.text, .slice D4 d.keys.length e4, .slice D5 d.kids.length e5] 34)).alloc (.cells #[.int .i64 fc, .int .i64 fa, .string fp] 23) := ⟨_, rfl⟩
  have B5 : Hid (Below w4.heap.size w4 w5) := hid (by rw [hw5]; exact bel)
  have X5 : Hid (w5.heap[w4.heap.size]? = some (.cells #[.int .i64 d.kind, .bool d.flag, .int .i64 d.num, .string d.text, .slice D4 d.keys.length e4, .slice D5 d.kids.length e5] 34 (0, 0))) := hid (by rw [hw5]; exact (Below.heap_alloc _ _ _ (by simp)).trans (heap_at rfl))
  have Y5 : Hid (w5.heap[w4.heap.size + 1]? = some (.cells #[.int .i64 fc, .int .i64 fa, .string fp] 23 (0, 0))) := hid (by rw [hw5]; exact heap_at (by simp))
  rw [<- hw5]
  clear hw5
  have H5 := hid (bb H4.out B5.out)
  refine (Four.callN hs2 HB.out.norm HC.out w5 H5.out).mono ?_
  rintro e w6 ⟨rfl, hb⟩
  have B6 := hid hb
  have H6 := hid (bb H5.out hb)
  clear hb
  go_upto_region 7 with fail
  obtain ⟨w7, hw7⟩ : ∃ W, W = w6.alloc (.cells #[.int .i64 fc, .int .i64 fa, .string fp] 23) := ⟨_, rfl⟩
  have B7 : Hid (Below w6.heap.size w6 w7) := hid (by rw [hw7]; exact bel)
  have Y7 : Hid (w7.heap[w6.heap.size]? = some (.cells #[.int .i64 fc, .int .i64 fa, .string fp] 23 (0, 0))) := hid (by rw [hw7]; exact heap_at rfl)
  rw [<- hw7]
  clear hw7
  have H7 := hid (bb H6.out B7.out)
  have F5 := hid (bb B6.out B7.out)
  have F4 := hid (bb B5.out F5.out)
  have F3 := hid (bb B4.out F4.out)
  have F2 := hid (bb B3.out F3.out)
  have P1 := hid ((F3.out.block _ (row_lt X3.out)).trans X3.out)
  have P2 := hid ((F3.out.block _ (row_lt Y3.out)).trans Y3.out)
  have P3 := hid ((F5.out.block _ (row_lt X5.out)).trans X5.out)
  have P4 := hid ((F5.out.block _ (row_lt Y5.out)).trans Y5.out)
  obtain ⟨p0, p1, p2, p3, p4, p5, pf⟩ := row6 P1.out
  obtain ⟨q0, q1, q2, qf⟩ := row3 P2.out
  obtain ⟨r0, r1, r2, r3, r4, r5, rf⟩ := row6 P3.out
  obtain ⟨t0, t1, t2, tf⟩ := row3 P4.out
  obtain ⟨u0, u1, u2, uf⟩ := row3 Y7.out
  have lp := row_lt P1.out
  have lq := row_lt P2.out
  have lr := row_lt P3.out
  have lt := row_lt P4.out
  have lu := row_lt Y7.out
  rcases hf : (fc == 0) with _ | _
  ·have hne : ¬ fc = 0 := by simpa using hf
   obtain ⟨rfl, rfl, hbad⟩ := HB.out.bad hne
   have HO := hid (fun (W : World) (h : Below w.heap.size w W) => Four.okS HC.out HB.out hf hs2 W h)
   go_wp2_with fail
   go_region_held3 (fun w' => Below (w7).heap.size (w7) w' /\ (∀ xb xo, xb < (w7).heap.size -> w'.cell? ⟨xb, xo, none⟩ = (w7).cell? ⟨xb, xo, none⟩)) (first | exact keep_drew _ | exact keep_ext (by assumption) (by assumption) | exact keep_same (by assumption) | exact keep_alloc (by assumption) _) (first | (go_at_call 20; refine (BN.same HB.out (HCt.out _ (bb F2.out (by first | (with_reducible exact Below.refl _ _) | exact (keep_same (by assumption)).1))) (HCw.out _ (bb F4.out (by first | (with_reducible exact Below.refl _ _) | exact (keep_same (by assumption)).1)))).mono ?_; rintro e w8 ⟨rfl, hb8⟩) | (go_at_call 37; refine (HO.out _ (bb H7.out (by first | (with_reducible exact Below.refl _ _) | exact (keep_same (by assumption)).1))).mono ?_; rintro e w9 ⟨rfl, hb9⟩))
   have HZ := hid (held_step (by assumption))
   have H9 := hid (bb H7.out HZ.out)
   have N1 := hid ((HZ.out.block _ lp).trans P1.out)
   have N2 := hid ((HZ.out.block _ lq).trans P2.out)
   clear p0 p1 p2 p3 p4 p5 pf q0 q1 q2 qf r0 r1 r2 r3 r4 r5 rf t0 t1 t2 tf u0 u1 u2 uf lp lq lr lt lu
   obtain ⟨p0, p1, p2, p3, p4, p5, pf⟩ := row6 N1.out
   obtain ⟨q0, q1, q2, qf⟩ := row3 N2.out
   have lp := row_lt N1.out
   have lq := row_lt N2.out
   go_wp2_with fail
   refine (BN.same HB.out (HCt.out _ (bb F2.out HZ.out)) (C_treeZ _)).mono ?_
   rintro e wa ⟨rfl, hba⟩
   have Ha := hid (bb H9.out hba)
   clear hba
   go_wp2_with fail
   refine (Four.callQ (C0 := w) s s _ false hs2 hs2 hbad HC.out Ha.out).mono ?_
   rintro e wb ⟨rfl, hbb⟩
   have Hb := hid (bb Ha.out hbb)
   clear hbb
   go_wp2_with fail
   go_ret
   exact ⟨rfl, Hb.out⟩
  ·obtain rfl : fc = 0 := by simpa using hf
   obtain ⟨hok, hagain, hsame⟩ := HB.out.good rfl
   have HT := hid (fun (W : World) (h : Below w2.heap.size w2 W) => BN.okTree HB.out rfl (HCt.out W h))
   have HO := hid (fun (W : World) (h : Below w.heap.size w W) => Four.okS HC.out HB.out hf hs2 W h)
   go_wp2_with fail
   go_region_held3 (fun w' => Below (w7).heap.size (w7) w' /\ (∀ xb xo, xb < (w7).heap.size -> w'.cell? ⟨xb, xo, none⟩ = (w7).cell? ⟨xb, xo, none⟩)) (first | exact keep_drew _ | exact keep_ext (by assumption) (by assumption) | exact keep_same (by assumption) | exact keep_alloc (by assumption) _) (first | (go_at_call 20; refine (BN.same HB.out (HCt.out _ (bb F2.out (by first | (with_reducible exact Below.refl _ _) | exact (keep_same (by assumption)).1))) (HCw.out _ (bb F4.out (by first | (with_reducible exact Below.refl _ _) | exact (keep_same (by assumption)).1)))).mono ?_; rintro e w8 ⟨rfl, hb8⟩) | (go_at_call 37; refine (HO.out _ (bb H7.out (by first | (with_reducible exact Below.refl _ _) | exact (keep_same (by assumption)).1))).mono ?_; rintro e w9 ⟨rfl, hb9⟩))
   have HZ := hid (held_step (by assumption))
   have H9 := hid (bb H7.out HZ.out)
   have N1 := hid ((HZ.out.block _ lp).trans P1.out)
   have N2 := hid ((HZ.out.block _ lq).trans P2.out)
   clear p0 p1 p2 p3 p4 p5 pf q0 q1 q2 qf r0 r1 r2 r3 r4 r5 rf t0 t1 t2 tf u0 u1 u2 uf lp lq lr lt lu
   obtain ⟨p0, p1, p2, p3, p4, p5, pf⟩ := row6 N1.out
   obtain ⟨q0, q1, q2, qf⟩ := row3 N2.out
   have lp := row_lt N1.out
   have lq := row_lt N2.out
   go_wp2_with fail
   refine (Four.callN hn2 hagain HC.out _ H9.out).mono ?_
   rintro e wa ⟨rfl, hba⟩
   have Ba := hid hba
   have Ha := hid (bb H9.out hba)
   clear hba
   go_upto_region 12 with fail
   obtain ⟨wb, hwb⟩ : ∃ W, W = wa.alloc (.cells #[.int .i64 0, .int .i64 0, .string ⟨#[]⟩] 23) := ⟨_, rfl⟩
   have Bb : Hid (Below wa.heap.size wa wb) := hid (by rw [hwb]; exact bel)
   have M1 : Hid (wb.heap[wa.heap.size]? = some (.cells #[.int .i64 0, .int .i64 0, .string ⟨#[]⟩] 23 (0, 0))) := hid (by rw [hwb]; exact heap_at rfl)
   rw [<- hwb]
   clear hwb
   have Hb := hid (bb Ha.out Bb.out)
   have G9 := hid (bb Ba.out Bb.out)
   have N3 := hid ((G9.out.block _ lp).trans N1.out)
   clear p0 p1 p2 p3 p4 p5 pf q0 q1 q2 qf lp lq
   obtain ⟨p0, p1, p2, p3, p4, p5, pf⟩ := row6 N3.out
   have lp := row_lt N3.out
   go_wp2_with fail
   refine (HT.out wb (bb F2.out (bb HZ.out G9.out))).mono ?_
   rintro e wc ⟨rfl, hbc⟩
   have M2 := hid ((hbc.block _ (row_lt M1.out)).trans M1.out)
   have Hc := hid (bb Hb.out hbc)
   clear hbc p0 p1 p2 p3 p4 p5 pf lp
   obtain ⟨m0, m1, m2, mf⟩ := row3 M2.out
   have lm := row_lt M2.out
   go_wp2_with fail
   refine (Four.callQ (C0 := w) s n _ true hs2 hn2 hsame HC.out Hc.out).mono ?_
   rintro e wd ⟨rfl, hbd⟩
   have Hd := hid (bb Hc.out hbd)
   clear hbd
   go_wp2_with fail
   go_ret
   exact ⟨by show Ending.returned (.bool (decide (n.size <= s.size))) = _; rw [decide_eq_true HB.out.size], Hd.out⟩
 ·go_enter Tryz.func7, Tryz.ntmps7
  go_wp2_with (go_at_call 16; refine (c_laws_big_yes d0 A c _ hq).mono ?_; rintro e w' ⟨rfl, rfl⟩)
  go_ret
  exact ⟨rfl, Below.refl _ _⟩
end Go.Proofs.YtohcpifekcehjaaGreatDoor
