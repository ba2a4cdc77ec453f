/- Written by wip/tools/pack.py: the texts that FnExactBracedNormal needs, without what it does not need. No conditions. -/
import Derived.Test.YtffelpdefjkeaaaGreatDoorKBrN16
import Derived.Test.YtffelpdefjkeaaaGreatDoorKBrN18
import Derived.Test.YtffelpdefjkeaaaGreatDoorKBrN7
import Derived.Test.YtffelpdefjkeaaaGreatDoorKBrN6
import Derived.Deep.CutBlock
import Derived.Deep.CutRange
namespace Go.Proofs.YtffelpdefjkeaaaGreatDoor
open Go.RowKit Go.Lib
def treeZ : TreeD := ⟨0, false, 0, ⟨#[]⟩, [], []⟩
/-- What ReadBraced yields. -/
def readB (s : ByteArray) : Flt × TreeD := if (signsF s).2.code = 0 then readL (signsF s).1 s.size else ((signsF s).2, treeZ)
theorem all_rdI (L : List SignD) (E : Int) (b : Nat) (hL : SgOk L) : ∀ n, T_valI L E b n := by
  intro n
  induction n using Nat.strongRecOn with
  | ind n ih =>
    cases n with
    | zero =>
      intro d p m w _ _ _ _ hn _
      simp [needJ] at hn
    | succ n => exact of_valI L E b n hL (of_listI L E b n hL (fun k hk => ih k (by omega))) (of_pairsI L E b n hL (fun k hk => ih k (by omega)))
theorem readB_sign {s : ByteArray} (h : (signsF s).2.code ≠ 0) : readB s = ((signsF s).2, treeZ) := if_neg h
theorem readB_bad {s : ByteArray} {f : Flt} (h : (signsF s).2.code = 0) (hr : readJ (signsF s).1 s.size (2 * (signsF s).1.length + 4) (.value 1) 0 0 = .bad f) : readB s = (f, treeZ) := by
  unfold readB readL
  rw [if_pos h, hr]
  rfl
theorem readB_more {s : ByteArray} {t : TreeD} {p m : Nat} (h : (signsF s).2.code = 0) (hr : readJ (signsF s).1 s.size (2 * (signsF s).1.length + 4) (.value 1) 0 0 = .good t p m) (hp : p < (signsF s).1.length) : readB s = (badF (signsF s).1 s.size 4 p, treeZ) := by
  unfold readB readL
  rw [if_pos h, hr]
  simp only
  rw [if_pos hp]
  rfl
theorem readB_good {s : ByteArray} {t : TreeD} {p m : Nat} (h : (signsF s).2.code = 0) (hr : readJ (signsF s).1 s.size (2 * (signsF s).1.length + 4) (.value 1) 0 0 = .good t p m) (hp : ¬ p < (signsF s).1.length) : readB s = (flt0, t) := by
  unfold readB readL
  rw [if_pos h, hr]
  simp only
  rw [if_neg hp]
def ReadE (r : Flt × TreeD) (w : World) (e : Ending) (w' : World) : Prop := ∃ cs, e = .returned (.tuple #[.agg cs.toArray, .agg (fltC r.1)]) ∧ OwnT 10 (fun x => w.heap.size ≤ x ∧ x < w'.heap.size) w' r.2 cs ∧ Below w.heap.size w w'
theorem ReadE.bad {r : Flt × TreeD} {f : Flt} {w w' : World} (hr : r = (f, treeZ)) (h : Below w.heap.size w w') : ReadE r w (.returned (.tuple #[.agg #[.int .i64 0, .bool false, .int .i64 0, .string ⟨#[]⟩, .slice none 0 0, .slice none 0 0], .agg (fltC f)])) w' := by
  subst hr
  exact ⟨[.int .i64 0, .bool false, .int .i64 0, .string ⟨#[]⟩, .slice none 0 0, .slice none 0 0], rfl, own_leaf (by unfold I64; decide) (by unfold I64; decide) (by decide), h⟩
set_option maxHeartbeats 8000000 in
set_option maxRecDepth 20000 in
theorem c_rdb_sign (s : ByteArray) (w : World) (hs : s.size ≤ 1048576) (hV : CTab w) (hT : Tabs w) (hE : ErrR w) (hf : (signsF s).2.code ≠ 0) :
    Calls Tryz.prog 15 #[.string s] w (ReadE (readB s) w) := by
  have HVT := Lib.hid (And.intro hV (And.intro hT hE))
  clear hV hT hE
  obtain ⟨r, hr⟩ : ∃ r, r = readB s := ⟨_, rfl⟩
  rw [← hr]
  have HSg := Lib.hid (signsF_ok s)
  have HSg2 := Lib.hid (c_impl_SignsOf s)
  rw [readB_sign hf] at hr
  obtain ⟨L, hL⟩ : ∃ L, L = (signsF s).1 := ⟨_, rfl⟩
  obtain ⟨F, hF⟩ : ∃ F, F = (signsF s).2 := ⟨_, rfl⟩
  rw [← hL] at HSg HSg2
  rw [← hF] at HSg2
  have HR := Lib.hid (show r = (F, treeZ) by rw [hr, hF])
  have hfc : F.code ≠ 0 := by rw [hF]; exact hf
  clear hf
  clear hr hL hF
  obtain ⟨fc, fa, fp⟩ := F
  go_enter Tryz.func15, Tryz.ntmps15
  go_wp2_with fail
  refine (HSg2.out _ hs (HVT.out.1.below bel) (HVT.out.2.1.below bel) (HVT.out.2.2.below bel)).mono ?_
  rintro e w1 ⟨A, c, rfl, hrow, hb1⟩
  have hrf : fltC ⟨fc, fa, fp⟩ = #[.int .i64 fc, .int .i64 fa, .string fp] := rfl
  rw [hrf]
  have HRow := Lib.hid hrow
  have HB1 := Lib.hid (bel : Below w.heap.size w w1)
  have HT2 := Lib.hid ((hb1.block w.heap.size (by simp; omega)).trans ((Below.heap_alloc _ _ _ (by simp)).trans (heap_at (w := w) (o := .cells #[.int .i64 0, .bool false, .int .i64 0, .string ⟨#[]⟩, .slice none 0 0, .slice none 0 0] 27) rfl)))
  have HT3 := Lib.hid ((hb1.block (w.heap.size + 1) (by simp)).trans (heap_at (w := w.alloc (.cells #[.int .i64 0, .bool false, .int .i64 0, .string ⟨#[]⟩, .slice none 0 0, .slice none 0 0] 27)) (o := .cells #[.int .i64 0, .int .i64 0, .string ⟨#[]⟩] 29) (by simp)))
  have l2 := row_lt HT2.out
  have l3 := row_lt HT3.out
  clear hrow hb1 hrf
  have dz : (fc != 0) = true := bne_iff_ne.2 hfc
  clear hfc
  go_wp2_with fail
  obtain ⟨w2, hw2⟩ : ∃ W, W = w1.alloc (.cells #[.int .i64 fc, .int .i64 fa, .string fp] 29) := ⟨_, rfl⟩
  rw [← hw2]
  have hb2 : Below w1.heap.size w1 w2 := by rw [hw2]; exact bel
  have X2 : w2.heap[w1.heap.size]? = some (.cells #[.int .i64 fc, .int .i64 fa, .string fp] 29 (0, 0)) := by rw [hw2]; exact heap_at rfl
  have hB2 := HB1.out.trans (hb2.mono HB1.out.size)
  obtain ⟨v0, v1, v2, vf⟩ := row3 X2
  obtain ⟨x0, x1, x2, x3, x4, x5, xf⟩ := row6 ((hb2.block _ l2).trans HT2.out)
  obtain ⟨y0, y1, y2, yf⟩ := row3 ((hb2.block _ l3).trans HT3.out)
  have m0 := row_lt X2
  have m2 := Nat.lt_of_lt_of_le l2 hb2.size
  have m3 := Nat.lt_of_lt_of_le l3 hb2.size
  clear hw2 hb2 X2
  go_region_law (fail)
  all_goals
    (try go_wp2_with fail)
    exact bodyPost_ret (v := .tuple #[.agg #[.int .i64 0, .bool false, .int .i64 0, .string ⟨#[]⟩, .slice none 0 0, .slice none 0 0], .agg #[.int .i64 fc, .int .i64 fa, .string fp]]) (by simp only [results, Tryz.results15]; go_simp) rfl (ReadE.bad HR.out bel)
set_option maxHeartbeats 8000000 in
set_option maxRecDepth 20000 in
theorem c_rdb_bad (s : ByteArray) (w : World) (hs : s.size ≤ 1048576) (hV : CTab w) (hT : Tabs w) (hE : ErrR w) (f : Flt) (hf : (signsF s).2.code = 0) (hq : readJ (signsF s).1 s.size (2 * (signsF s).1.length + 4) (.value 1) 0 0 = .bad f) :
    Calls Tryz.prog 15 #[.string s] w (ReadE (readB s) w) := by
  have HVT := Lib.hid (And.intro hV (And.intro hT hE))
  clear hV hT hE
  obtain ⟨r, hr⟩ : ∃ r, r = readB s := ⟨_, rfl⟩
  rw [← hr]
  have HSg := Lib.hid (signsF_ok s)
  have HSg2 := Lib.hid (c_impl_SignsOf s)
  rw [readB_bad hf hq] at hr
  obtain ⟨L, hL⟩ : ∃ L, L = (signsF s).1 := ⟨_, rfl⟩
  obtain ⟨F, hF⟩ : ∃ F, F = (signsF s).2 := ⟨_, rfl⟩
  rw [← hL] at HSg HSg2
  rw [← hF] at HSg2
  have HR := Lib.hid hr
  rw [← hL] at hq
  have HQ := Lib.hid hq
  have hgd := readJ_good L s.size (2 * L.length + 4) (.value 1) 0 0 (Nat.zero_le _) (Nat.zero_le _) (by unfold needJ; simp only; omega)
  rw [hq] at hgd
  have hlen := HSg.out.len
  have hfc : F.code = 0 := by rw [hF]; exact hf
  have HAll := Lib.hid (fun b => all_rdI L s.size b HSg.out (2 * L.length + 4))
  clear hq hf
  clear hr hL hF
  obtain ⟨fc, fa, fp⟩ := F
  go_enter Tryz.func15, Tryz.ntmps15
  go_wp2_with fail
  refine (HSg2.out _ hs (HVT.out.1.below bel) (HVT.out.2.1.below bel) (HVT.out.2.2.below bel)).mono ?_
  rintro e w1 ⟨A, c, rfl, hrow, hb1⟩
  have hrf : fltC ⟨fc, fa, fp⟩ = #[.int .i64 fc, .int .i64 fa, .string fp] := rfl
  rw [hrf]
  have HRow := Lib.hid hrow
  have HB1 := Lib.hid (bel : Below w.heap.size w w1)
  have HT2 := Lib.hid ((hb1.block w.heap.size (by simp; omega)).trans ((Below.heap_alloc _ _ _ (by simp)).trans (heap_at (w := w) (o := .cells #[.int .i64 0, .bool false, .int .i64 0, .string ⟨#[]⟩, .slice none 0 0, .slice none 0 0] 27) rfl)))
  have HT3 := Lib.hid ((hb1.block (w.heap.size + 1) (by simp)).trans (heap_at (w := w.alloc (.cells #[.int .i64 0, .bool false, .int .i64 0, .string ⟨#[]⟩, .slice none 0 0, .slice none 0 0] 27)) (o := .cells #[.int .i64 0, .int .i64 0, .string ⟨#[]⟩] 29) (by simp)))
  have l2 := row_lt HT2.out
  have l3 := row_lt HT3.out
  clear hrow hb1 hrf
  change fc = 0 at hfc
  subst hfc
  go_upto_region 5 with fail
  obtain ⟨w2, hw2⟩ : ∃ W, W = w1.alloc (.cells #[.int .i64 0, .int .i64 fa, .string fp] 29) := ⟨_, rfl⟩
  rw [← hw2]
  have hb2 : Below w1.heap.size w1 w2 := by rw [hw2]; exact bel
  have HZ2 := Lib.hid (show w1.heap.size + 1 = w2.heap.size by rw [hw2]; simp)
  have hz2 : w1.heap.size < w2.heap.size := by rw [hw2]; simp
  have hz2a : w1.heap.size + 1 ≤ w2.heap.size := by rw [hw2]; simp
  have hz2b : w2.heap.size ≤ w1.heap.size + 1 := by rw [hw2]; simp
  obtain ⟨w3, hw3⟩ : ∃ W, W = w2.alloc (.cells #[.slice A L.length c, .int .i64 0, .int .i64 s.size, .int .i64 0, .int .i64 0, .int .i64 0, .string ⟨#[]⟩] 56) := ⟨_, rfl⟩
  have HW3 := Lib.hid hw3
  have hb3 : Below w2.heap.size w2 w3 := by rw [hw3]; exact bel
  have hz3 : w2.heap.size < w3.heap.size := by rw [hw3]; simp
  have hR3 : RdAt L s.size (w1.heap.size + 1) 0 0 flt0 w3 := ⟨A, c, by rw [hw3]; exact heap_at HZ2.out, (RowE.less (HRow.out.below hb2) (Nat.zero_le _)).below hb3, fun g hg => by have := (World.ownsRow.lt HRow.out g hg).2; omega⟩
  have HR3 := Lib.hid hR3
  have HB3 := Lib.hid ((HB1.out.trans (hb2.mono HB1.out.size)).trans (hb3.mono (by have := HB1.out.size; omega)))
  have HT2b := Lib.hid ((hb3.block _ (by omega)).trans ((hb2.block _ l2).trans HT2.out))
  have HT3b := Lib.hid ((hb3.block _ (by omega)).trans ((hb2.block _ l3).trans HT3.out))
  clear hw2 hb2 hw3 hb3 hR3
  go_wp2_with fail
  rw [← HW3.out]
  refine (HAll.out (w1.heap.size + 1) 1 0 0 w3 (by omega) (by omega) (Nat.zero_le _) (Nat.zero_le _) (by unfold needJ; simp only; omega) HR3.out).mono ?_
  intro e w4 hv4
  have hsw : w.heap.size + 1 < w2.heap.size := by have := HB1.out.size; omega
  obtain ⟨u0, u1, u2, u3, U4, u4, u44, U5, u5, u55, p4, m4, rfl, hR4, hp4, hA4⟩ := ValE.isBad HQ.out hv4
  have hs4 := hA4.size
  have hB4 : Below w.heap.size w w4 := HB3.out.trans (hA4.below HB3.out.size (fun i hi => by have := HB1.out.size; omega))
  have HT2c := (hA4.block _ (by omega) (by omega)).trans HT2b.out
  have HT3c := (hA4.block _ (by omega) (by omega)).trans HT3b.out
  obtain ⟨gc, ga, gp⟩ := f
  have dz : (gc != 0) = true := bne_iff_ne.2 hgd
  have dz2 : (gc == 0) = false := beq_eq_false_iff_ne.2 hgd
  have HR4 := Lib.hid hR4
  obtain ⟨A5, c5, hbx, -, -⟩ := hR4
  unfold rdC at hbx
  obtain ⟨a0, a1, a2, a3, a4, a5, a6, af⟩ := row7r hbx
  have lb := row_lt hbx
  clear hbx
  obtain ⟨x0, x1, x2, x3, x4, x5, xf⟩ := row6 HT2c
  obtain ⟨y0, y1, y2, yf⟩ := row3 HT3c
  have m2 := row_lt HT2c
  have m3 := row_lt HT3c
  clear hgd hv4 HT2c HT3c hA4
  go_upto_region 9 with fail
  go_region_law (fail)
  all_goals
    (try go_wp2_with fail)
    exact bodyPost_ret (v := .tuple #[.agg #[.int .i64 0, .bool false, .int .i64 0, .string ⟨#[]⟩, .slice none 0 0, .slice none 0 0], .agg #[.int .i64 gc, .int .i64 ga, .string gp]]) (by simp only [results, Tryz.results15]; go_simp) rfl (ReadE.bad HR.out bel)
set_option maxHeartbeats 8000000 in
set_option maxRecDepth 20000 in
theorem c_rdb_more (s : ByteArray) (w : World) (hs : s.size ≤ 1048576) (hV : CTab w) (hT : Tabs w) (hE : ErrR w) (t : TreeD) (p m : Nat) (hf : (signsF s).2.code = 0) (hq : readJ (signsF s).1 s.size (2 * (signsF s).1.length + 4) (.value 1) 0 0 = .good t p m) (hp : p < (signsF s).1.length) :
    Calls Tryz.prog 15 #[.string s] w (ReadE (readB s) w) := by
  have HVT := Lib.hid (And.intro hV (And.intro hT hE))
  clear hV hT hE
  obtain ⟨r, hr⟩ : ∃ r, r = readB s := ⟨_, rfl⟩
  rw [← hr]
  have HSg := Lib.hid (signsF_ok s)
  have HSg2 := Lib.hid (c_impl_SignsOf s)
  rw [readB_more hf hq hp] at hr
  obtain ⟨L, hL⟩ : ∃ L, L = (signsF s).1 := ⟨_, rfl⟩
  obtain ⟨F, hF⟩ : ∃ F, F = (signsF s).2 := ⟨_, rfl⟩
  rw [← hL] at HSg HSg2
  rw [← hF] at HSg2
  rw [← hL] at hp hr
  have HR := Lib.hid hr
  rw [← hL] at hq
  have HQ := Lib.hid hq
  have hgd := readJ_good L s.size (2 * L.length + 4) (.value 1) 0 0 (Nat.zero_le _) (Nat.zero_le _) (by unfold needJ; simp only; omega)
  rw [hq] at hgd
  have hlen := HSg.out.len
  have hfc : F.code = 0 := by rw [hF]; exact hf
  have HAll := Lib.hid (fun b => all_rdI L s.size b HSg.out (2 * L.length + 4))
  clear hq hf
  clear hr hL hF
  obtain ⟨fc, fa, fp⟩ := F
  go_enter Tryz.func15, Tryz.ntmps15
  go_wp2_with fail
  refine (HSg2.out _ hs (HVT.out.1.below bel) (HVT.out.2.1.below bel) (HVT.out.2.2.below bel)).mono ?_
  rintro e w1 ⟨A, c, rfl, hrow, hb1⟩
  have hrf : fltC ⟨fc, fa, fp⟩ = #[.int .i64 fc, .int .i64 fa, .string fp] := rfl
  rw [hrf]
  have HRow := Lib.hid hrow
  have HB1 := Lib.hid (bel : Below w.heap.size w w1)
  have HT2 := Lib.hid ((hb1.block w.heap.size (by simp; omega)).trans ((Below.heap_alloc _ _ _ (by simp)).trans (heap_at (w := w) (o := .cells #[.int .i64 0, .bool false, .int .i64 0, .string ⟨#[]⟩, .slice none 0 0, .slice none 0 0] 27) rfl)))
  have HT3 := Lib.hid ((hb1.block (w.heap.size + 1) (by simp)).trans (heap_at (w := w.alloc (.cells #[.int .i64 0, .bool false, .int .i64 0, .string ⟨#[]⟩, .slice none 0 0, .slice none 0 0] 27)) (o := .cells #[.int .i64 0, .int .i64 0, .string ⟨#[]⟩] 29) (by simp)))
  have l2 := row_lt HT2.out
  have l3 := row_lt HT3.out
  clear hrow hb1 hrf
  change fc = 0 at hfc
  subst hfc
  go_upto_region 5 with fail
  obtain ⟨w2, hw2⟩ : ∃ W, W = w1.alloc (.cells #[.int .i64 0, .int .i64 fa, .string fp] 29) := ⟨_, rfl⟩
  rw [← hw2]
  have hb2 : Below w1.heap.size w1 w2 := by rw [hw2]; exact bel
  have HZ2 := Lib.hid (show w1.heap.size + 1 = w2.heap.size by rw [hw2]; simp)
  have hz2 : w1.heap.size < w2.heap.size := by rw [hw2]; simp
  have hz2a : w1.heap.size + 1 ≤ w2.heap.size := by rw [hw2]; simp
  have hz2b : w2.heap.size ≤ w1.heap.size + 1 := by rw [hw2]; simp
  obtain ⟨w3, hw3⟩ : ∃ W, W = w2.alloc (.cells #[.slice A L.length c, .int .i64 0, .int .i64 s.size, .int .i64 0, .int .i64 0, .int .i64 0, .string ⟨#[]⟩] 56) := ⟨_, rfl⟩
  have HW3 := Lib.hid hw3
  have hb3 : Below w2.heap.size w2 w3 := by rw [hw3]; exact bel
  have hz3 : w2.heap.size < w3.heap.size := by rw [hw3]; simp
  have hR3 : RdAt L s.size (w1.heap.size + 1) 0 0 flt0 w3 := ⟨A, c, by rw [hw3]; exact heap_at HZ2.out, (RowE.less (HRow.out.below hb2) (Nat.zero_le _)).below hb3, fun g hg => by have := (World.ownsRow.lt HRow.out g hg).2; omega⟩
  have HR3 := Lib.hid hR3
  have HB3 := Lib.hid ((HB1.out.trans (hb2.mono HB1.out.size)).trans (hb3.mono (by have := HB1.out.size; omega)))
  have HT2b := Lib.hid ((hb3.block _ (by omega)).trans ((hb2.block _ l2).trans HT2.out))
  have HT3b := Lib.hid ((hb3.block _ (by omega)).trans ((hb2.block _ l3).trans HT3.out))
  clear hw2 hb2 hw3 hb3 hR3
  go_wp2_with fail
  rw [← HW3.out]
  refine (HAll.out (w1.heap.size + 1) 1 0 0 w3 (by omega) (by omega) (Nat.zero_le _) (Nat.zero_le _) (by unfold needJ; simp only; omega) HR3.out).mono ?_
  intro e w4 hv4
  have hsw : w.heap.size + 1 < w2.heap.size := by have := HB1.out.size; omega
  obtain ⟨cs4, rfl, hO4, hR4, hA4⟩ := ValE.isGood HQ.out hv4
  obtain ⟨U4, u44, U5, u55, rfl, -⟩ := hO4.flat
  have hs4 := hA4.size
  have hB4 : Below w.heap.size w w4 := HB3.out.trans (hA4.below HB3.out.size (fun i hi => by have := HB1.out.size; omega))
  have HT2c := Lib.hid ((hA4.block _ (by omega) (by omega)).trans HT2b.out)
  have HT3c := Lib.hid ((hA4.block _ (by omega) (by omega)).trans HT3b.out)
  have dp : (p : Int) < L.length := by omega
  have HR4 := Lib.hid hR4
  obtain ⟨A5, c5, hbx, -, -⟩ := hR4
  unfold rdC at hbx
  obtain ⟨a0, a1, a2, a3, a4, a5, a6, af⟩ := row7r hbx
  have lb := row_lt hbx
  clear hbx
  have a4' : w4.cell? ⟨w1.heap.size + 1, 4, none⟩ = some (.int .i64 0) := a4
  clear hgd hv4 hA4 a4 hO4
  go_wp2_with fail
  refine (c_rd_fail_new L s.size 4 (w1.heap.size + 1) p m flt0 _ (by omega) (HR4.out.below bel) rfl).mono ?_
  rintro e w6 ⟨rfl, hR6, hA6⟩
  have hs6 := hA6.size
  simp at hs6
  have hB6 : Below w.heap.size w w6 := Below.trans (b := w4.alloc (.cells #[.int .i64 t.kind, .bool t.flag, .int .i64 t.num, .string t.text, .slice U4 t.keys.length u44, .slice U5 t.kids.length u55] 27)) bel (hA6.below (by simp; have := hB4.size; omega) (fun i hi => by have := HB1.out.size; omega))
  have HT2d := (hA6.block _ (by simp; omega) (by omega)).trans ((Below.heap_alloc _ _ _ (by omega)).trans HT2c.out)
  have HT3d := (hA6.block _ (by simp; omega) (by omega)).trans ((Below.heap_alloc _ _ _ (by omega)).trans HT3c.out)
  clear a0 a1 a2 a3 a4' a5 a6 af
  obtain ⟨f, hfe⟩ : ∃ f, f = badF L s.size 4 p := ⟨_, rfl⟩
  rw [← hfe] at hR6
  have HR2 := Lib.hid (show r = (f, treeZ) by rw [hfe]; exact HR.out)
  have hgc : f.code = 4 := by rw [hfe]; rfl
  clear hfe HR
  have HR := HR2
  obtain ⟨gc, ga, gp⟩ := f
  change gc = 4 at hgc
  subst hgc
  obtain ⟨A5, c5, hbx, -, -⟩ := hR6
  unfold rdC at hbx
  obtain ⟨a0, a1, a2, a3, a4, a5, a6, af⟩ := row7r hbx
  have lb := row_lt hbx
  clear hbx
  obtain ⟨x0, x1, x2, x3, x4, x5, xf⟩ := row6 HT2d
  obtain ⟨y0, y1, y2, yf⟩ := row3 HT3d
  have m2 := row_lt HT2d
  have m3 := row_lt HT3d
  clear HT2d HT3d hA6
  go_upto_region 9 with fail
  go_region_law (fail)
  all_goals
    (try go_wp2_with fail)
    exact bodyPost_ret (v := .tuple #[.agg #[.int .i64 0, .bool false, .int .i64 0, .string ⟨#[]⟩, .slice none 0 0, .slice none 0 0], .agg #[.int .i64 4, .int .i64 ga, .string gp]]) (by simp only [results, Tryz.results15]; go_simp) rfl (ReadE.bad HR.out bel)
set_option maxHeartbeats 8000000 in
set_option maxRecDepth 20000 in
theorem c_rdb_good (s : ByteArray) (w : World) (hs : s.size ≤ 1048576) (hV : CTab w) (hT : Tabs w) (hE : ErrR w) (t : TreeD) (p m : Nat) (hf : (signsF s).2.code = 0) (hq : readJ (signsF s).1 s.size (2 * (signsF s).1.length + 4) (.value 1) 0 0 = .good t p m) (hp : ¬ p < (signsF s).1.length) :
    Calls Tryz.prog 15 #[.string s] w (ReadE (readB s) w) := by
  have HVT := Lib.hid (And.intro hV (And.intro hT hE))
  clear hV hT hE
  obtain ⟨r, hr⟩ : ∃ r, r = readB s := ⟨_, rfl⟩
  rw [← hr]
  have HSg := Lib.hid (signsF_ok s)
  have HSg2 := Lib.hid (c_impl_SignsOf s)
  rw [readB_good hf hq hp] at hr
  obtain ⟨L, hL⟩ : ∃ L, L = (signsF s).1 := ⟨_, rfl⟩
  obtain ⟨F, hF⟩ : ∃ F, F = (signsF s).2 := ⟨_, rfl⟩
  rw [← hL] at HSg HSg2
  rw [← hF] at HSg2
  rw [← hL] at hp
  have HR := Lib.hid hr
  rw [← hL] at hq
  have HQ := Lib.hid hq
  have hgd := readJ_good L s.size (2 * L.length + 4) (.value 1) 0 0 (Nat.zero_le _) (Nat.zero_le _) (by unfold needJ; simp only; omega)
  rw [hq] at hgd
  have hlen := HSg.out.len
  have hfc : F.code = 0 := by rw [hF]; exact hf
  have HAll := Lib.hid (fun b => all_rdI L s.size b HSg.out (2 * L.length + 4))
  clear hq hf
  clear hr hL hF
  obtain ⟨fc, fa, fp⟩ := F
  go_enter Tryz.func15, Tryz.ntmps15
  go_wp2_with fail
  refine (HSg2.out _ hs (HVT.out.1.below bel) (HVT.out.2.1.below bel) (HVT.out.2.2.below bel)).mono ?_
  rintro e w1 ⟨A, c, rfl, hrow, hb1⟩
  have hrf : fltC ⟨fc, fa, fp⟩ = #[.int .i64 fc, .int .i64 fa, .string fp] := rfl
  rw [hrf]
  have HRow := Lib.hid hrow
  have HB1 := Lib.hid (bel : Below w.heap.size w w1)
  have HT2 := Lib.hid ((hb1.block w.heap.size (by simp; omega)).trans ((Below.heap_alloc _ _ _ (by simp)).trans (heap_at (w := w) (o := .cells #[.int .i64 0, .bool false, .int .i64 0, .string ⟨#[]⟩, .slice none 0 0, .slice none 0 0] 27) rfl)))
  have HT3 := Lib.hid ((hb1.block (w.heap.size + 1) (by simp)).trans (heap_at (w := w.alloc (.cells #[.int .i64 0, .bool false, .int .i64 0, .string ⟨#[]⟩, .slice none 0 0, .slice none 0 0] 27)) (o := .cells #[.int .i64 0, .int .i64 0, .string ⟨#[]⟩] 29) (by simp)))
  have l2 := row_lt HT2.out
  have l3 := row_lt HT3.out
  clear hrow hb1 hrf
  change fc = 0 at hfc
  subst hfc
  go_upto_region 5 with fail
  obtain ⟨w2, hw2⟩ : ∃ W, W = w1.alloc (.cells #[.int .i64 0, .int .i64 fa, .string fp] 29) := ⟨_, rfl⟩
  rw [← hw2]
  have hb2 : Below w1.heap.size w1 w2 := by rw [hw2]; exact bel
  have HZ2 := Lib.hid (show w1.heap.size + 1 = w2.heap.size by rw [hw2]; simp)
  have hz2 : w1.heap.size < w2.heap.size := by rw [hw2]; simp
  have hz2a : w1.heap.size + 1 ≤ w2.heap.size := by rw [hw2]; simp
  have hz2b : w2.heap.size ≤ w1.heap.size + 1 := by rw [hw2]; simp
  obtain ⟨w3, hw3⟩ : ∃ W, W = w2.alloc (.cells #[.slice A L.length c, .int .i64 0, .int .i64 s.size, .int .i64 0, .int .i64 0, .int .i64 0, .string ⟨#[]⟩] 56) := ⟨_, rfl⟩
  have HW3 := Lib.hid hw3
  have hb3 : Below w2.heap.size w2 w3 := by rw [hw3]; exact bel
  have hz3 : w2.heap.size < w3.heap.size := by rw [hw3]; simp
  have hR3 : RdAt L s.size (w1.heap.size + 1) 0 0 flt0 w3 := ⟨A, c, by rw [hw3]; exact heap_at HZ2.out, (RowE.less (HRow.out.below hb2) (Nat.zero_le _)).below hb3, fun g hg => by have := (World.ownsRow.lt HRow.out g hg).2; omega⟩
  have HR3 := Lib.hid hR3
  have HB3 := Lib.hid ((HB1.out.trans (hb2.mono HB1.out.size)).trans (hb3.mono (by have := HB1.out.size; omega)))
  have HT2b := Lib.hid ((hb3.block _ (by omega)).trans ((hb2.block _ l2).trans HT2.out))
  have HT3b := Lib.hid ((hb3.block _ (by omega)).trans ((hb2.block _ l3).trans HT3.out))
  clear hw2 hb2 hw3 hb3 hR3
  go_wp2_with fail
  rw [← HW3.out]
  refine (HAll.out (w1.heap.size + 1) 1 0 0 w3 (by omega) (by omega) (Nat.zero_le _) (Nat.zero_le _) (by unfold needJ; simp only; omega) HR3.out).mono ?_
  intro e w4 hv4
  have hsw : w.heap.size + 1 < w2.heap.size := by have := HB1.out.size; omega
  obtain ⟨cs4, rfl, hO4, hR4, hA4⟩ := ValE.isGood HQ.out hv4
  have HO4 := Lib.hid hO4
  obtain ⟨U4, u44, U5, u55, rfl, -⟩ := hO4.flat
  have hs4 := hA4.size
  have hB4 : Below w.heap.size w w4 := HB3.out.trans (hA4.below HB3.out.size (fun i hi => by have := HB1.out.size; omega))
  have HT2c := (hA4.block _ (by omega) (by omega)).trans HT2b.out
  have HT3c := (hA4.block _ (by omega) (by omega)).trans HT3b.out
  have dp : decide ((p : Int) < L.length) = false := decide_eq_false (by omega)
  have dp2 : decide (p < L.length) = false := decide_eq_false hp
  obtain ⟨A5, c5, hbx, -, -⟩ := hR4
  unfold rdC at hbx
  obtain ⟨a0, a1, a2, a3, a4, a5, a6, af⟩ := row7r hbx
  have lb := row_lt hbx
  clear hbx
  have a4' : w4.cell? ⟨w1.heap.size + 1, 4, none⟩ = some (.int .i64 0) := a4
  obtain ⟨x0, x1, x2, x3, x4, x5, xf⟩ := row6 HT2c
  obtain ⟨y0, y1, y2, yf⟩ := row3 HT3c
  have m2 := row_lt HT2c
  have m3 := row_lt HT3c
  have HS4 := Lib.hid (show w.heap.size + 1 < w3.heap.size by omega)
  clear hgd hv4 hA4 a4 hO4 HT2c HT3c hp
  go_wp2_with fail
  refine bodyPost_ret (v := .tuple #[.agg #[.int .i64 t.kind, .bool t.flag, .int .i64 t.num, .string t.text, .slice U4 t.keys.length u44, .slice U5 t.kids.length u55], .agg #[.int .i64 0, .int .i64 0, .string ⟨#[]⟩]]) (by simp only [results, Tryz.results15]; go_simp) rfl ?_
  rw [HR.out]
  refine ⟨[.int .i64 t.kind, .bool t.flag, .int .i64 t.num, .string t.text, .slice U4 t.keys.length u44, .slice U5 t.kids.length u55], rfl, (HO4.out.up (by omega)).carry (fun x hx => Aside.block (S := fun q => q = w.heap.size ∨ q = w.heap.size + 1) (w := w4) (by repeat (first | (with_reducible exact Aside.refl _ _) | ((with_reducible refine aside_set ?_ ?_); (focus (simp; done))) | (with_reducible refine aside_alloc ?_))) x hx.2 (by have := HS4.out; have := hx.1; omega)) (fun x hx => ⟨by have := HS4.out; have := hx.1; omega, Nat.lt_of_lt_of_le hx.2 (Aside.size (S := fun q => q = w.heap.size ∨ q = w.heap.size + 1) (w := w4) (by repeat (first | (with_reducible exact Aside.refl _ _) | ((with_reducible refine aside_set ?_ ?_); (focus (simp; done))) | (with_reducible refine aside_alloc ?_))))⟩), bel⟩
theorem c_impl_ReadBraced (s : ByteArray) (w : World) (hs : s.size ≤ 1048576) (hV : CTab w) (hT : Tabs w) (hE : ErrR w) :
    Calls Tryz.prog 15 #[.string s] w (ReadE (readB s) w) := by
  by_cases hf : (signsF s).2.code = 0
  · rcases hq : readJ (signsF s).1 s.size (2 * (signsF s).1.length + 4) (.value 1) 0 0 with f | ⟨t, p, m⟩
    · exact c_rdb_bad s w hs hV hT hE f hf hq
    · by_cases hp : p < (signsF s).1.length
      · exact c_rdb_more s w hs hV hT hE t p m hf hq hp
      · exact c_rdb_good s w hs hV hT hE t p m hf hq hp
  · exact c_rdb_sign s w hs hV hT hE hf
end Go.Proofs.YtffelpdefjkeaaaGreatDoor
namespace Go.Proofs.YtffelpdefjkeaaaGreatDoor
open Go.RowKit Go.Lib
theorem lit_list : (⟨#[57, 50, 50, 51, 51, 55, 50, 48, 51, 54, 56, 53, 52, 55, 55, 53, 56, 48, 56]⟩ : ByteArray).toList = [57, 50, 50, 51, 51, 55, 50, 48, 51, 54, 56, 53, 52, 55, 55, 53, 56, 48, 56] := by simp [ByteArray.toList_eq]
theorem whole_read {s : ByteArray} {a e : Nat} {neg : Bool} (he : e = digE s a) (has : a ≤ s.size) (h : ¬ (e = a ∨ (byteI s a = 48 ∧ a + 1 < e) ∨ (e < s.size ∧ (byteI s e = 46 ∨ byteI s e = 101 ∨ byteI s e = 69)))) :
    (neg = true ∧ s.extract a e = ⟨#[57, 50, 50, 51, 51, 55, 50, 48, 51, 54, 56, 53, 52, 55, 55, 53, 56, 48, 56]⟩ ∧ wholeA s neg a = (-9223372036854775808, (e : Int))) ∨
    ((neg = false ∨ s.extract a e ≠ ⟨#[57, 50, 50, 51, 51, 55, 50, 48, 51, 54, 56, 53, 52, 55, 55, 53, 56, 48, 56]⟩) ∧
      ((∃ u : Nat, u ≤ 9223372036854775807 ∧ readI (s.extract a e) = some u ∧ wholeA s neg a = (if neg = true then -(u : Int) else u, (e : Int))) ∨ (readI (s.extract a e) = none ∧ wholeA s neg a = (0, -1)))) := by
  subst he
  have hae := digE_le s a
  have hes := hae.2 has
  have hne : a < digE s a := by have := hae.1; have := not_or.1 h; omega
  have hf : ∀ t, a ≤ t → t < digE s a → figI (byteI s t) = true := fun t h1 h2 => (digE_figs h1 h2).1
  have hz : ¬ (byteI s a = 48 ∧ a + 1 < digE s a) := fun hh => h (.inr (.inl hh))
  have hmin := is_min hne hes hf hz
  have hr := readI_part hne hes hf hz
  unfold wholeA
  rw [if_neg h]
  cases neg with
  | true =>
    rw [if_pos rfl]
    by_cases hm : numB s a (digE s a) = 9223372036854775808
    · exact .inl ⟨rfl, hmin.2 hm, by rw [hm, if_pos (by decide)]; rfl⟩
    · refine .inr ⟨.inr (fun hh => hm (hmin.1 hh)), ?_⟩
      by_cases hv : numB s a (digE s a) ≤ 9223372036854775807
      · rw [if_pos hv] at hr
        exact .inl ⟨_, hv, hr, by rw [if_pos (by omega)]; rfl⟩
      · rw [if_neg hv] at hr
        exact .inr ⟨hr, by rw [if_neg (by omega)]⟩
  | false =>
    rw [if_neg (by decide)]
    refine .inr ⟨.inl rfl, ?_⟩
    by_cases hv : numB s a (digE s a) ≤ 9223372036854775807
    · rw [if_pos hv] at hr
      exact .inl ⟨_, hv, hr, by rw [if_pos hv]; rfl⟩
    · rw [if_neg hv] at hr
      exact .inr ⟨hr, by rw [if_neg hv]⟩
set_option maxHeartbeats 4000000 in
set_option maxRecDepth 20000 in
theorem c_spec_ReadWhole (s : ByteArray) (i : Nat) (w : World) (hs : s.size ≤ 1048576) (hi : i ≤ 1048576) :
    Calls Tryz.prog 95 #[.string s, .int .i64 i] w fun e w' => e = .returned (.tuple #[.int .i64 (wholeB s i).1, .int .i64 (wholeB s i).2]) ∧ Below w.heap.size w w' := by
  by_cases hlt : (i : Int) < s.size
  · have hii : i < s.size := by omega
    have h0 : inB (i : Int) 0 ((s.size : Int) - 1) = true := decide_eq_true (by omega)
    have hz0 : (0 : Int) ≤ i := by omega
    obtain ⟨b, hb⟩ : ∃ b : Nat, b = (s.get! i).toNat := ⟨_, rfl⟩
    have hx : (s[i]'hii).toNat = b := by rw [hb]; exact get_byte s i hii
    have hby : byteI s i = b := by unfold byteI; rw [hb]
    obtain ⟨a, ha⟩ : ∃ a, a = if byteI s i = 45 then i + 1 else i := ⟨_, rfl⟩
    obtain ⟨neg, hneg⟩ : ∃ neg : Bool, neg = decide (byteI s i = 45) := ⟨_, rfl⟩
    have hWB : wholeB s i = wholeA s neg a := by rw [hneg]; exact wholeB_at hii ha
    have hnb : ((b : Int) == 45) = neg := by rw [hneg, hby]; rw [Bool.eq_iff_iff]; simp
    have hcs : (neg = true ∧ (i : Int) + 1 = a) ∨ (neg = false ∧ a = i) := by
      by_cases h45 : byteI s i = 45
      · rw [if_pos h45] at ha; exact .inl ⟨by rw [hneg]; exact decide_eq_true h45, by omega⟩
      · rw [if_neg h45] at ha; exact .inr ⟨by rw [hneg]; exact decide_eq_false h45, ha⟩
    have HWB := Lib.hid hWB
    have HCs := Lib.hid hcs
    have hia : i ≤ a ∧ a ≤ i + 1 := by rw [ha]; split <;> omega
    obtain ⟨e0, he0⟩ : ∃ e0, e0 = digE s a := ⟨_, rfl⟩
    have hE0 := digE_le s a
    rw [← he0] at hE0
    have hae : a ≤ e0 := hE0.1
    have hes : e0 ≤ s.size := hE0.2 (by omega)
    have HE0 := Lib.hid he0
    obtain ⟨hia1, hia2⟩ := hia
    clear hb hby ha he0 hE0 hneg hWB hcs
    go_enter Tryz.func95, Tryz.ntmps95
    go_upto_if 23 with (first | (go_at_call 59; refine (c_spec_l01In _ _ _ _).mono ?_; rintro e w' ⟨rfl, rfl⟩))
    go_cut [7] from 23 to 25 (fun s7 wx => s7 = .int .i64 a ∧ wx = w)
    case first =>
      rcases HCs.out with ⟨rfl, haa⟩ | ⟨rfl, haa⟩
      · go_wp2_with fail
        go_meet
        exact ⟨rfl, rfl⟩
      · have HAA := Lib.hid haa
        clear haa
        go_wp2_with fail
        go_meet
        exact ⟨by rw [HAA.out], rfl⟩
    case rest =>
      obtain ⟨rfl, rfl⟩ := hcut
      go_upto_block 0 with fail
      go_cut [8] from 27 to 44 (fun s8 wx => s8 = .int .i64 e0 ∧ wx = wc)
      case first =>
        go_wp2_with fail
        go_loopw [8] (fun s8 wr => ∃ j : Nat, a ≤ j ∧ j ≤ e0 ∧ s8 = .int .i64 j ∧ digE s j = e0 ∧ wr = wc) (fun s8 _ => s.size - (intOf s8).toNat)
        case atStart => exact ⟨a, Nat.le_refl _, hae, rfl, HE0.out.symm, rfl⟩
        case round =>
          obtain ⟨j, haj, hje, rfl, hdj, rfl⟩ := hrel
          have HJ := Lib.hid hdj
          clear hdj
          by_cases hjl : (j : Int) < s.size
          · have hjj : j < s.size := by omega
            have hj0 : (0 : Int) ≤ j := by omega
            obtain ⟨c, hc⟩ : ∃ c : Nat, c = (s.get! j).toNat := ⟨_, rfl⟩
            have hxj : (s[j]'hjj).toNat = c := by rw [hc]; exact get_byte s j hjj
            have hbj : byteI s j = c := by unfold byteI; rw [hc]
            have HC := Lib.hid hbj
            have HD := Lib.hid (HJ.out.symm.trans (digE_at hjj))
            clear hc hbj
            by_cases f1 : (48 : Int) ≤ c
            · by_cases f2 : (c : Int) ≤ 57
              · have HF := Lib.hid (show digE s (j + 1) = e0 by have h9 := HD.out; rw [HC.out, if_pos (by unfold figI; rw [decide_eq_true f1, decide_eq_true f2]; rfl)] at h9; exact h9.symm)
                have hle := (digE_le s (j + 1)).1
                rw [HF.out] at hle
                go_wp2_with fail
                go_roundw
                case rel => exact ⟨j + 1, by omega, hle, by go_num, HF.out, by first | rfl | exact True.intro⟩
                case measure => simp [intOf]; omega
              · have HF := Lib.hid (show e0 = j by have h9 := HD.out; rw [HC.out, if_neg (by unfold figI; rw [decide_eq_false f2, Bool.and_false]; decide)] at h9; exact h9)
                have d2 : decide ((c : Int) ≤ 57) = false := decide_eq_false f2
                have d3 : decide (c ≤ 57) = false := decide_eq_false (by omega)
                clear f2
                go_wp2_with fail
                go_meet
                exact ⟨by rw [HF.out], rfl⟩
            · have HF := Lib.hid (show e0 = j by have h9 := HD.out; rw [HC.out, if_neg (by unfold figI; rw [decide_eq_false f1, Bool.false_and]; decide)] at h9; exact h9)
              have d2 : decide ((48 : Int) ≤ c) = false := decide_eq_false f1
              have d3 : decide (48 ≤ c) = false := decide_eq_false (by omega)
              clear f1
              go_wp2_with fail
              go_meet
              exact ⟨by rw [HF.out], rfl⟩
          · have HF := Lib.hid (show e0 = j by rw [← HJ.out]; exact digE_end (by omega))
            go_wp2_with fail
            go_meet
            exact ⟨by rw [HF.out], rfl⟩
      case rest =>
        obtain ⟨rfl, rfl⟩ := hcut
        obtain ⟨F, hF⟩ : ∃ F, F = s.extract a e0 := ⟨_, rfl⟩
        have hFs : F.size = e0 - a := by rw [hF, ByteArray.size_extract]; omega
        have HF := Lib.hid hF
        have hFe : s.extract a e0 = F := hF.symm
        have haeI : (a : Int) ≤ e0 := by omega
        have hesI : (e0 : Int) ≤ s.size := by omega
        clear hF
        by_cases c1 : e0 = a
        · have HQ := Lib.hid (show wholeB s i = (0, -1) from HWB.out.trans (wholeA_no (.inl (by rw [← HE0.out]; omega))))
          have hm1 := toList_empty (s := F) (by omega)
          clear c1
          go_wp2_with fail
          go_ret2
          exact ⟨by rw [HQ.out]; rfl, Below.refl _ _⟩
        · have hm1 := toList_some (s := F) (by omega)
          have hlt2 : a < e0 := by omega
          have ham : a < s.size := by omega
          have hFp : 0 < F.size := by omega
          have hFpI : (0 : Int) < F.size := by omega
          obtain ⟨ca, hca⟩ : ∃ c : Nat, c = (s.get! a).toNat := ⟨_, rfl⟩
          have hx0 : (F[0]'hFp).toNat = ca := by
            have h9 := extract_get s a e0 0 hes (by omega)
            rw [hca, get_byte F 0 hFp]
            have h8 : F.data.toList[0]? = some (F.get! 0) := by
              have h7 : 0 < F.data.toList.length := by rw [Array.length_toList]; exact hFp
              rw [List.getElem?_eq_getElem h7, Array.getElem_toList]
              show some (F.data[0]) = some (F.data[0]!)
              rw [getElem!_pos F.data 0 hFp]
            rw [HF.out] at h8 ⊢
            rw [h9] at h8
            injection h8 with h8
            rw [← h8]
            rfl
          have HCa := Lib.hid (show byteI s a = ca by unfold byteI; rw [hca])
          have hFsI : (F.size : Int) = e0 - a := by omega
          have HFs := Lib.hid hFsI
          clear hca c1 hFsI
          obtain ⟨fz, hfz⟩ : ∃ fz : Nat, fz = F.size := ⟨_, rfl⟩
          by_cases c2 : ca = 48 ∧ a + 1 < e0
          · have HQ := Lib.hid (show wholeB s i = (0, -1) from HWB.out.trans (wholeA_no (.inr (.inl ⟨by rw [HCa.out]; omega, by rw [← HE0.out]; omega⟩))))
            obtain ⟨rfl, c22⟩ := c2
            have hf1 : (1 : Int) < F.size := by omega
            clear hFs hfz
            go_wp2_with fail
            go_ret2
            exact ⟨by rw [HQ.out]; rfl, Below.refl _ _⟩
          · have tail : ∀ P : Prop, (decide (1 < F.size) = false → decide ((1 : Int) < F.size) = false → P) → ((1 : Int) < F.size → ((ca : Int) == 48) = false → P) → P := by
              intro P k1 k2
              by_cases c : 1 < F.size
              · exact k2 (by omega) (beq_eq_false_iff_ne.2 (fun h => c2 ⟨by omega, by omega⟩))
              · exact k1 (decide_eq_false c) (decide_eq_false (by omega))
            have HC2 := Lib.hid c2
            have HFz := Lib.hid hFs
            clear c2 hFs hfz
            by_cases c3 : (e0 : Int) < s.size
            · have hej : e0 < s.size := by omega
              have he0 : (0 : Int) ≤ e0 := by omega
              obtain ⟨ce, hce⟩ : ∃ c : Nat, c = (s.get! e0).toNat := ⟨_, rfl⟩
              have hxe : (s[e0]'hej).toNat = ce := by rw [hce]; exact get_byte s e0 hej
              have HCe := Lib.hid (show byteI s e0 = ce by unfold byteI; rw [hce])
              clear hce
              by_cases c4 : ce = 46 ∨ ce = 101 ∨ ce = 69
              · have HQ := Lib.hid (show wholeB s i = (0, -1) from HWB.out.trans (wholeA_no (.inr (.inr ⟨by rw [← HE0.out]; exact hej, by rw [← HE0.out, HCe.out]; omega⟩))))
                rcases c4 with rfl | rfl | rfl
                all_goals
                  refine tail _ (fun t1 t2 => ?_) (fun t1 t2 => ?_)
                  all_goals
                    clear tail
                    go_wp2_with fail
                    all_goals
                      go_ret2
                      exact ⟨by rw [HQ.out]; rfl, Below.refl _ _⟩
              · have hRE := Lib.hid (whole_read (s := s) (a := a) (e := e0) (neg := neg) HE0.out (by omega) (by
                  rw [HCa.out, HCe.out]
                  rintro (h | h | h)
                  · omega
                  · exact HC2.out ⟨by omega, h.2⟩
                  · omega))
                have g1 : ((ce : Int) == 46) = false := beq_eq_false_iff_ne.2 (by omega)
                have g2 : ((ce : Int) == 101) = false := beq_eq_false_iff_ne.2 (by omega)
                have g3 : ((ce : Int) == 69) = false := beq_eq_false_iff_ne.2 (by omega)
                clear c4
                refine tail _ (fun t1 t2 => ?_) (fun t1 t2 => ?_)
                all_goals
                  clear tail
                  rcases hRE.out with ⟨rfl, hl, hv⟩ | ⟨hl, hr⟩
                  · have HQ := Lib.hid (HWB.out.trans hv)
                    rw [hFe] at hl
                    have hl1 := beqD_yes hl
                    have hl2 : (F.toList == [57, 50, 50, 51, 51, 55, 50, 48, 51, 54, 56, 53, 52, 55, 55, 53, 56, 48, 56]) = true := by rw [hl, lit_list]; rfl
                    clear hl hv hRE
                    go_wp2_with fail
                    go_ret2
                    exact ⟨by rw [HQ.out]; rfl, Below.refl _ _⟩
                  · rw [hFe] at hl hr
                    have htest : (neg && (F.toList == [57, 50, 50, 51, 51, 55, 50, 48, 51, 54, 56, 53, 52, 55, 55, 53, 56, 48, 56])) = false := by
                      rcases hl with rfl | h
                      · rfl
                      · rw [← lit_list, beqD_no h, Bool.and_false]
                    have HTe := Lib.hid htest
                    have two : ∀ P : Prop, (neg = false → P) → (neg = true → (F.toList == [57, 50, 50, 51, 51, 55, 50, 48, 51, 54, 56, 53, 52, 55, 55, 53, 56, 48, 56]) = false → P) → P := by
                      intro P k1 k2
                      rcases hn : neg with _ | _
                      · exact k1 hn
                      · refine k2 hn ?_
                        have h9 := HTe.out
                        rw [hn, Bool.true_and] at h9
                        exact h9
                    clear htest hl hRE
                    rcases hr with ⟨u, hu, hr, hv⟩ | ⟨hr, hv⟩
                    · have HQ := Lib.hid (HWB.out.trans hv)
                      have HRd := Lib.hid (read_some hr)
                      have huI : (u : Int) ≤ 9223372036854775807 := by omega
                      have hu0 : (0 : Int) ≤ u := by omega
                      clear hr hv
                      refine two _ (fun n1 => ?_) (fun n1 n2 => ?_)
                      all_goals
                        clear two
                        subst n1
                        go_wp2_with fail
                        refine (c_spec_ReadInt F _ (by have := HFz.out; omega)).mono ?_
                        rintro e w9 ⟨rfl, hb9⟩
                        rw [HRd.out.1, HRd.out.2]
                        go_wp2_with fail
                        go_ret2
                        exact ⟨by rw [HQ.out]; rfl, bel⟩
                    · have HQ := Lib.hid (HWB.out.trans hv)
                      have HRd := Lib.hid (read_none hr)
                      clear hr hv
                      refine two _ (fun n1 => ?_) (fun n1 n2 => ?_)
                      all_goals
                        clear two
                        subst n1
                        go_wp2_with fail
                        refine (c_spec_ReadInt F _ (by have := HFz.out; omega)).mono ?_
                        rintro e w9 ⟨rfl, hb9⟩
                        rw [HRd.out.1, HRd.out.2]
                        go_wp2_with fail
                        go_ret2
                        exact ⟨by rw [HQ.out]; rfl, bel⟩
            · have heq : e0 = s.size := by omega
              have hRE := Lib.hid (whole_read (s := s) (a := a) (e := e0) (neg := neg) HE0.out (by omega) (by
                rw [HCa.out]
                rintro (h | h | h)
                · omega
                · exact HC2.out ⟨by omega, h.2⟩
                · omega))
              have hsz3 : decide ((e0 : Int) < s.size) = false := decide_eq_false c3
              have hsz4 : decide (e0 < s.size) = false := decide_eq_false (by omega)
              clear heq c3
              refine tail _ (fun t1 t2 => ?_) (fun t1 t2 => ?_)
              all_goals
                clear tail
                rcases hRE.out with ⟨rfl, hl, hv⟩ | ⟨hl, hr⟩
                · have HQ := Lib.hid (HWB.out.trans hv)
                  rw [hFe] at hl
                  have hl1 := beqD_yes hl
                  have hl2 : (F.toList == [57, 50, 50, 51, 51, 55, 50, 48, 51, 54, 56, 53, 52, 55, 55, 53, 56, 48, 56]) = true := by rw [hl, lit_list]; rfl
                  clear hl hv hRE
                  go_wp2_with fail
                  go_ret2
                  exact ⟨by rw [HQ.out]; rfl, Below.refl _ _⟩
                · rw [hFe] at hl hr
                  have htest : (neg && (F.toList == [57, 50, 50, 51, 51, 55, 50, 48, 51, 54, 56, 53, 52, 55, 55, 53, 56, 48, 56])) = false := by
                    rcases hl with rfl | h
                    · rfl
                    · rw [← lit_list, beqD_no h, Bool.and_false]
                  have HTe := Lib.hid htest
                  have two : ∀ P : Prop, (neg = false → P) → (neg = true → (F.toList == [57, 50, 50, 51, 51, 55, 50, 48, 51, 54, 56, 53, 52, 55, 55, 53, 56, 48, 56]) = false → P) → P := by
                    intro P k1 k2
                    rcases hn : neg with _ | _
                    · exact k1 hn
                    · refine k2 hn ?_
                      have h9 := HTe.out
                      rw [hn, Bool.true_and] at h9
                      exact h9
                  clear htest hl hRE
                  rcases hr with ⟨u, hu, hr, hv⟩ | ⟨hr, hv⟩
                  · have HQ := Lib.hid (HWB.out.trans hv)
                    have HRd := Lib.hid (read_some hr)
                    have huI : (u : Int) ≤ 9223372036854775807 := by omega
                    have hu0 : (0 : Int) ≤ u := by omega
                    clear hr hv
                    refine two _ (fun n1 => ?_) (fun n1 n2 => ?_)
                    all_goals
                      clear two
                      subst n1
                      go_wp2_with fail
                      refine (c_spec_ReadInt F _ (by have := HFz.out; omega)).mono ?_
                      rintro e w9 ⟨rfl, hb9⟩
                      rw [HRd.out.1, HRd.out.2]
                      go_wp2_with fail
                      go_ret2
                      exact ⟨by rw [HQ.out]; rfl, bel⟩
                  · have HQ := Lib.hid (HWB.out.trans hv)
                    have HRd := Lib.hid (read_none hr)
                    clear hr hv
                    refine two _ (fun n1 => ?_) (fun n1 n2 => ?_)
                    all_goals
                      clear two
                      subst n1
                      go_wp2_with fail
                      refine (c_spec_ReadInt F _ (by have := HFz.out; omega)).mono ?_
                      rintro e w9 ⟨rfl, hb9⟩
                      rw [HRd.out.1, HRd.out.2]
                      go_wp2_with fail
                      go_ret2
                      exact ⟨by rw [HQ.out]; rfl, bel⟩
  · have HQ := Lib.hid (show wholeB s i = (0, -1) by unfold wholeB; rw [if_neg (by omega)])
    have h0 : inB (i : Int) 0 ((s.size : Int) - 1) = false := decide_eq_false (by omega)
    go_enter Tryz.func95, Tryz.ntmps95
    go_wp2_with (first | (go_at_call 59; refine (c_spec_l01In _ _ _ _).mono ?_; rintro e w' ⟨rfl, rfl⟩))
    go_ret2
    exact ⟨by rw [HQ.out]; rfl, Below.refl _ _⟩
end Go.Proofs.YtffelpdefjkeaaaGreatDoor
