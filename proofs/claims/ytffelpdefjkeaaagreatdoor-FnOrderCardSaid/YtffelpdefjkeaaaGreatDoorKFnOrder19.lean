/- Written by wip/tools/pack.py: the texts that FnOrder needs, without what it does not need. No conditions. -/
import Derived.Test.YtffelpdefjkeaaaGreatDoorKFnOrder18
import Derived.Test.YtffelpdefjkeaaaGreatDoorKFnOrder16
import Derived.Test.YtffelpdefjkeaaaGreatDoorKFnOrder17
import Derived.Shelf.LaysM
import Derived.Shelf.Strconv.Itoa3
import Derived.Test.YtffelpdefjkeaaaGreatDoorKFnOrder1
import Derived.Test.YtffelpdefjkeaaaGreatDoorKFnOrder6
namespace Go.Proofs.YtffelpdefjkeaaaGreatDoor
open Go.RowKit Go.Lib
def treeZ : TreeD := ⟨0, false, 0, ⟨#[]⟩, [], []⟩
/-- What ReadBraced yields. -/
def readB (s : ByteArray) : Flt × TreeD := if (signsF s).2.code = 0 then readL (signsF s).1 s.size else ((signsF s).2, treeZ)
theorem all_rdI (L : List SignD) (E : Int) (b : Nat) (hL : SgOk L) : ∀ n, T_valI L E b n := by
  intro n
  induction n using Nat.strongRecOn with
  | ind n ih =>
    cases n with
    | zero =>
      intro d p m w _ _ _ _ hn _
      simp [needJ] at hn
    | succ n => exact of_valI L E b n hL (of_listI L E b n hL (fun k hk => ih k (by omega))) (of_pairsI L E b n hL (fun k hk => ih k (by omega)))
theorem readB_sign {s : ByteArray} (h : (signsF s).2.code ≠ 0) : readB s = ((signsF s).2, treeZ) := if_neg h
theorem readB_bad {s : ByteArray} {f : Flt} (h : (signsF s).2.code = 0) (hr : readJ (signsF s).1 s.size (2 * (signsF s).1.length + 4) (.value 1) 0 0 = .bad f) : readB s = (f, treeZ) := by
  unfold readB readL
  rw [if_pos h, hr]
  rfl
theorem readB_more {s : ByteArray} {t : TreeD} {p m : Nat} (h : (signsF s).2.code = 0) (hr : readJ (signsF s).1 s.size (2 * (signsF s).1.length + 4) (.value 1) 0 0 = .good t p m) (hp : p < (signsF s).1.length) : readB s = (badF (signsF s).1 s.size 4 p, treeZ) := by
  unfold readB readL
  rw [if_pos h, hr]
  simp only
  rw [if_pos hp]
  rfl
theorem readB_good {s : ByteArray} {t : TreeD} {p m : Nat} (h : (signsF s).2.code = 0) (hr : readJ (signsF s).1 s.size (2 * (signsF s).1.length + 4) (.value 1) 0 0 = .good t p m) (hp : ¬ p < (signsF s).1.length) : readB s = (flt0, t) := by
  unfold readB readL
  rw [if_pos h, hr]
  simp only
  rw [if_neg hp]
def ReadE (r : Flt × TreeD) (w : World) (e : Ending) (w' : World) : Prop := ∃ cs, e = .returned (.tuple #[.agg cs.toArray, .agg (fltC r.1)]) ∧ OwnT 10 (fun x => w.heap.size ≤ x ∧ x < w'.heap.size) w' r.2 cs ∧ Below w.heap.size w w'
theorem ReadE.bad {r : Flt × TreeD} {f : Flt} {w w' : World} (hr : r = (f, treeZ)) (h : Below w.heap.size w w') : ReadE r w (.returned (.tuple #[.agg #[.int .i64 0, .bool false, .int .i64 0, .string ⟨#[]⟩, .slice none 0 0, .slice none 0 0], .agg (fltC f)])) w' := by
  subst hr
  exact ⟨[.int .i64 0, .bool false, .int .i64 0, .string ⟨#[]⟩, .slice none 0 0, .slice none 0 0], rfl, own_leaf (by unfold I64; decide) (by unfold I64; decide) (by decide), h⟩
set_option maxHeartbeats 8000000 in
set_option maxRecDepth 20000 in
theorem c_rdb_sign (s : ByteArray) (w : World) (hs : s.size ≤ 1048576) (hV : CTab w) (hT : Tabs w) (hE : ErrR w) (hf : (signsF s).2.code ≠ 0) :
    Calls Tryz.prog 15 #[.string s] w (ReadE (readB s) w) := by
  have HVT := Lib.hid (And.intro hV (And.intro hT hE))
  clear hV hT hE
  obtain ⟨r, hr⟩ : ∃ r, r = readB s := ⟨_, rfl⟩
  rw [← hr]
  have HSg := Lib.hid (signsF_ok s)
  have HSg2 := Lib.hid (c_impl_SignsOf s)
  rw [readB_sign hf] at hr
  obtain ⟨L, hL⟩ : ∃ L, L = (signsF s).1 := ⟨_, rfl⟩
  obtain ⟨F, hF⟩ : ∃ F, F = (signsF s).2 := ⟨_, rfl⟩
  rw [← hL] at HSg HSg2
  rw [← hF] at HSg2
  have HR := Lib.hid (show r = (F, treeZ) by rw [hr, hF])
  have hfc : F.code ≠ 0 := by rw [hF]; exact hf
  clear hf
  clear hr hL hF
  obtain ⟨fc, fa, fp⟩ := F
  go_enter Tryz.func15, Tryz.ntmps15
  go_wp2_with fail
  refine (HSg2.out _ hs (HVT.out.1.below bel) (HVT.out.2.1.below bel) (HVT.out.2.2.below bel)).mono ?_
  rintro e w1 ⟨A, c, rfl, hrow, hb1⟩
  have hrf : fltC ⟨fc, fa, fp⟩ = #[.int .i64 fc, .int .i64 fa, .string fp] := rfl
  rw [hrf]
  have HRow := Lib.hid hrow
  have HB1 := Lib.hid (bel : Below w.heap.size w w1)
  have HT2 := Lib.hid ((hb1.block w.heap.size (by simp; omega)).trans ((Below.heap_alloc _ _ _ (by simp)).trans (heap_at (w := w) (o := .cells #[.int .i64 0, .bool false, .int .i64 0, .string ⟨#[]⟩, .slice none 0 0, .slice none 0 0] 27) rfl)))
  have HT3 := Lib.hid ((hb1.block (w.heap.size + 1) (by simp)).trans (heap_at (w := w.alloc (.cells #[.int .i64 0, .bool false, .int .i64 0, .string ⟨#[]⟩, .slice none 0 0, .slice none 0 0] 27)) (o := .cells #[.int .i64 0, .int .i64 0, .string ⟨#[]⟩] 29) (by simp)))
  have l2 := row_lt HT2.out
  have l3 := row_lt HT3.out
  clear hrow hb1 hrf
  have dz : (fc != 0) = true := bne_iff_ne.2 hfc
  clear hfc
  go_wp2_with fail
  obtain ⟨w2, hw2⟩ : ∃ W, W = w1.alloc (.cells #[.int .i64 fc, .int .i64 fa, .string fp] 29) := ⟨_, rfl⟩
  rw [← hw2]
  have hb2 : Below w1.heap.size w1 w2 := by rw [hw2]; exact bel
  have X2 : w2.heap[w1.heap.size]? = some (.cells #[.int .i64 fc, .int .i64 fa, .string fp] 29 (0, 0)) := by rw [hw2]; exact heap_at rfl
  have hB2 := HB1.out.trans (hb2.mono HB1.out.size)
  obtain ⟨v0, v1, v2, vf⟩ := row3 X2
  obtain ⟨x0, x1, x2, x3, x4, x5, xf⟩ := row6 ((hb2.block _ l2).trans HT2.out)
  obtain ⟨y0, y1, y2, yf⟩ := row3 ((hb2.block _ l3).trans HT3.out)
  have m0 := row_lt X2
  have m2 := Nat.lt_of_lt_of_le l2 hb2.size
  have m3 := Nat.lt_of_lt_of_le l3 hb2.size
  clear hw2 hb2 X2
  go_region_law (fail)
  all_goals
    (try go_wp2_with fail)
    exact bodyPost_ret (v := .tuple #[.agg #[.int .i64 0, .bool false, .int .i64 0, .string ⟨#[]⟩, .slice none 0 0, .slice none 0 0], .agg #[.int .i64 fc, .int .i64 fa, .string fp]]) (by simp only [results, Tryz.results15]; go_simp) rfl (ReadE.bad HR.out bel)
set_option maxHeartbeats 8000000 in
set_option maxRecDepth 20000 in
theorem c_rdb_bad (s : ByteArray) (w : World) (hs : s.size ≤ 1048576) (hV : CTab w) (hT : Tabs w) (hE : ErrR w) (f : Flt) (hf : (signsF s).2.code = 0) (hq : readJ (signsF s).1 s.size (2 * (signsF s).1.length + 4) (.value 1) 0 0 = .bad f) :
    Calls Tryz.prog 15 #[.string s] w (ReadE (readB s) w) := by
  have HVT := Lib.hid (And.intro hV (And.intro hT hE))
  clear hV hT hE
  obtain ⟨r, hr⟩ : ∃ r, r = readB s := ⟨_, rfl⟩
  rw [← hr]
  have HSg := Lib.hid (signsF_ok s)
  have HSg2 := Lib.hid (c_impl_SignsOf s)
  rw [readB_bad hf hq] at hr
  obtain ⟨L, hL⟩ : ∃ L, L = (signsF s).1 := ⟨_, rfl⟩
  obtain ⟨F, hF⟩ : ∃ F, F = (signsF s).2 := ⟨_, rfl⟩
  rw [← hL] at HSg HSg2
  rw [← hF] at HSg2
  have HR := Lib.hid hr
  rw [← hL] at hq
  have HQ := Lib.hid hq
  have hgd := readJ_good L s.size (2 * L.length + 4) (.value 1) 0 0 (Nat.zero_le _) (Nat.zero_le _) (by unfold needJ; simp only; omega)
  rw [hq] at hgd
  have hlen := HSg.out.len
  have hfc : F.code = 0 := by rw [hF]; exact hf
  have HAll := Lib.hid (fun b => all_rdI L s.size b HSg.out (2 * L.length + 4))
  clear hq hf
  clear hr hL hF
  obtain ⟨fc, fa, fp⟩ := F
  go_enter Tryz.func15, Tryz.ntmps15
  go_wp2_with fail
  refine (HSg2.out _ hs (HVT.out.1.below bel) (HVT.out.2.1.below bel) (HVT.out.2.2.below bel)).mono ?_
  rintro e w1 ⟨A, c, rfl, hrow, hb1⟩
  have hrf : fltC ⟨fc, fa, fp⟩ = #[.int .i64 fc, .int .i64 fa, .string fp] := rfl
  rw [hrf]
  have HRow := Lib.hid hrow
  have HB1 := Lib.hid (bel : Below w.heap.size w w1)
  have HT2 := Lib.hid ((hb1.block w.heap.size (by simp; omega)).trans ((Below.heap_alloc _ _ _ (by simp)).trans (heap_at (w := w) (o := .cells #[.int .i64 0, .bool false, .int .i64 0, .string ⟨#[]⟩, .slice none 0 0, .slice none 0 0] 27) rfl)))
  have HT3 := Lib.hid ((hb1.block (w.heap.size + 1) (by simp)).trans (heap_at (w := w.alloc (.cells #[.int .i64 0, .bool false, .int .i64 0, .string ⟨#[]⟩, .slice none 0 0, .slice none 0 0] 27)) (o := .cells #[.int .i64 0, .int .i64 0, .string ⟨#[]⟩] 29) (by simp)))
  have l2 := row_lt HT2.out
  have l3 := row_lt HT3.out
  clear hrow hb1 hrf
  change fc = 0 at hfc
  subst hfc
  go_upto_region 5 with fail
  obtain ⟨w2, hw2⟩ : ∃ W, W = w1.alloc (.cells #[.int .i64 0, .int .i64 fa, .string fp] 29) := ⟨_, rfl⟩
  rw [← hw2]
  have hb2 : Below w1.heap.size w1 w2 := by rw [hw2]; exact bel
  have HZ2 := Lib.hid (show w1.heap.size + 1 = w2.heap.size by rw [hw2]; simp)
  have hz2 : w1.heap.size < w2.heap.size := by rw [hw2]; simp
  have hz2a : w1.heap.size + 1 ≤ w2.heap.size := by rw [hw2]; simp
  have hz2b : w2.heap.size ≤ w1.heap.size + 1 := by rw [hw2]; simp
  obtain ⟨w3, hw3⟩ : ∃ W, W = w2.alloc (.cells #[.slice A L.length c, .int .i64 0, .int .i64 s.size, .int .i64 0, .int .i64 0, .int .i64 0, .string ⟨#[]⟩] 56) := ⟨_, rfl⟩
  have HW3 := Lib.hid hw3
  have hb3 : Below w2.heap.size w2 w3 := by rw [hw3]; exact bel
  have hz3 : w2.heap.size < w3.heap.size := by rw [hw3]; simp
  have hR3 : RdAt L s.size (w1.heap.size + 1) 0 0 flt0 w3 := ⟨A, c, by rw [hw3]; exact heap_at HZ2.out, (RowE.less (HRow.out.below hb2) (Nat.zero_le _)).below hb3, fun g hg => by have := (World.ownsRow.lt HRow.out g hg).2; omega⟩
  have HR3 := Lib.hid hR3
  have HB3 := Lib.hid ((HB1.out.trans (hb2.mono HB1.out.size)).trans (hb3.mono (by have := HB1.out.size; omega)))
  have HT2b := Lib.hid ((hb3.block _ (by omega)).trans ((hb2.block _ l2).trans HT2.out))
  have HT3b := Lib.hid ((hb3.block _ (by omega)).trans ((hb2.block _ l3).trans HT3.out))
  clear hw2 hb2 hw3 hb3 hR3
  go_wp2_with fail
  rw [← HW3.out]
  refine (HAll.out (w1.heap.size + 1) 1 0 0 w3 (by omega) (by omega) (Nat.zero_le _) (Nat.zero_le _) (by unfold needJ; simp only; omega) HR3.out).mono ?_
  intro e w4 hv4
  have hsw : w.heap.size + 1 < w2.heap.size := by have := HB1.out.size; omega
  obtain ⟨u0, u1, u2, u3, U4, u4, u44, U5, u5, u55, p4, m4, rfl, hR4, hp4, hA4⟩ := ValE.isBad HQ.out hv4
  have hs4 := hA4.size
  have hB4 : Below w.heap.size w w4 := HB3.out.trans (hA4.below HB3.out.size (fun i hi => by have := HB1.out.size; omega))
  have HT2c := (hA4.block _ (by omega) (by omega)).trans HT2b.out
  have HT3c := (hA4.block _ (by omega) (by omega)).trans HT3b.out
  obtain ⟨gc, ga, gp⟩ := f
  have dz : (gc != 0) = true := bne_iff_ne.2 hgd
  have dz2 : (gc == 0) = false := beq_eq_false_iff_ne.2 hgd
  have HR4 := Lib.hid hR4
  obtain ⟨A5, c5, hbx, -, -⟩ := hR4
  unfold rdC at hbx
  obtain ⟨a0, a1, a2, a3, a4, a5, a6, af⟩ := row7r hbx
  have lb := row_lt hbx
  clear hbx
  obtain ⟨x0, x1, x2, x3, x4, x5, xf⟩ := row6 HT2c
  obtain ⟨y0, y1, y2, yf⟩ := row3 HT3c
  have m2 := row_lt HT2c
  have m3 := row_lt HT3c
  clear hgd hv4 HT2c HT3c hA4
  go_upto_region 9 with fail
  go_region_law (fail)
  all_goals
    (try go_wp2_with fail)
    exact bodyPost_ret (v := .tuple #[.agg #[.int .i64 0, .bool false, .int .i64 0, .string ⟨#[]⟩, .slice none 0 0, .slice none 0 0], .agg #[.int .i64 gc, .int .i64 ga, .string gp]]) (by simp only [results, Tryz.results15]; go_simp) rfl (ReadE.bad HR.out bel)
set_option maxHeartbeats 8000000 in
set_option maxRecDepth 20000 in
theorem c_rdb_more (s : ByteArray) (w : World) (hs : s.size ≤ 1048576) (hV : CTab w) (hT : Tabs w) (hE : ErrR w) (t : TreeD) (p m : Nat) (hf : (signsF s).2.code = 0) (hq : readJ (signsF s).1 s.size (2 * (signsF s).1.length + 4) (.value 1) 0 0 = .good t p m) (hp : p < (signsF s).1.length) :
    Calls Tryz.prog 15 #[.string s] w (ReadE (readB s) w) := by
  have HVT := Lib.hid (And.intro hV (And.intro hT hE))
  clear hV hT hE
  obtain ⟨r, hr⟩ : ∃ r, r = readB s := ⟨_, rfl⟩
  rw [← hr]
  have HSg := Lib.hid (signsF_ok s)
  have HSg2 := Lib.hid (c_impl_SignsOf s)
  rw [readB_more hf hq hp] at hr
  obtain ⟨L, hL⟩ : ∃ L, L = (signsF s).1 := ⟨_, rfl⟩
  obtain ⟨F, hF⟩ : ∃ F, F = (signsF s).2 := ⟨_, rfl⟩
  rw [← hL] at HSg HSg2
  rw [← hF] at HSg2
  rw [← hL] at hp hr
  have HR := Lib.hid hr
  rw [← hL] at hq
  have HQ := Lib.hid hq
  have hgd := readJ_good L s.size (2 * L.length + 4) (.value 1) 0 0 (Nat.zero_le _) (Nat.zero_le _) (by unfold needJ; simp only; omega)
  rw [hq] at hgd
  have hlen := HSg.out.len
  have hfc : F.code = 0 := by rw [hF]; exact hf
  have HAll := Lib.hid (fun b => all_rdI L s.size b HSg.out (2 * L.length + 4))
  clear hq hf
  clear hr hL hF
  obtain ⟨fc, fa, fp⟩ := F
  go_enter Tryz.func15, Tryz.ntmps15
  go_wp2_with fail
  refine (HSg2.out _ hs (HVT.out.1.below bel) (HVT.out.2.1.below bel) (HVT.out.2.2.below bel)).mono ?_
  rintro e w1 ⟨A, c, rfl, hrow, hb1⟩
  have hrf : fltC ⟨fc, fa, fp⟩ = #[.int .i64 fc, .int .i64 fa, .string fp] := rfl
  rw [hrf]
  have HRow := Lib.hid hrow
  have HB1 := Lib.hid (bel : Below w.heap.size w w1)
  have HT2 := Lib.hid ((hb1.block w.heap.size (by simp; omega)).trans ((Below.heap_alloc _ _ _ (by simp)).trans (heap_at (w := w) (o := .cells #[.int .i64 0, .bool false, .int .i64 0, .string ⟨#[]⟩, .slice none 0 0, .slice none 0 0] 27) rfl)))
  have HT3 := Lib.hid ((hb1.block (w.heap.size + 1) (by simp)).trans (heap_at (w := w.alloc (.cells #[.int .i64 0, .bool false, .int .i64 0, .string ⟨#[]⟩, .slice none 0 0, .slice none 0 0] 27)) (o := .cells #[.int .i64 0, .int .i64 0, .string ⟨#[]⟩] 29) (by simp)))
  have l2 := row_lt HT2.out
  have l3 := row_lt HT3.out
  clear hrow hb1 hrf
  change fc = 0 at hfc
  subst hfc
  go_upto_region 5 with fail
  obtain ⟨w2, hw2⟩ : ∃ W, W = w1.alloc (.cells #[.int .i64 0, .int .i64 fa, .string fp] 29) := ⟨_, rfl⟩
  rw [← hw2]
  have hb2 : Below w1.heap.size w1 w2 := by rw [hw2]; exact bel
  have HZ2 := Lib.hid (show w1.heap.size + 1 = w2.heap.size by rw [hw2]; simp)
  have hz2 : w1.heap.size < w2.heap.size := by rw [hw2]; simp
  have hz2a : w1.heap.size + 1 ≤ w2.heap.size := by rw [hw2]; simp
  have hz2b : w2.heap.size ≤ w1.heap.size + 1 := by rw [hw2]; simp
  obtain ⟨w3, hw3⟩ : ∃ W, W = w2.alloc (.cells #[.slice A L.length c, .int .i64 0, .int .i64 s.size, .int .i64 0, .int .i64 0, .int .i64 0, .string ⟨#[]⟩] 56) := ⟨_, rfl⟩
  have HW3 := Lib.hid hw3
  have hb3 : Below w2.heap.size w2 w3 := by rw [hw3]; exact bel
  have hz3 : w2.heap.size < w3.heap.size := by rw [hw3]; simp
  have hR3 : RdAt L s.size (w1.heap.size + 1) 0 0 flt0 w3 := ⟨A, c, by rw [hw3]; exact heap_at HZ2.out, (RowE.less (HRow.out.below hb2) (Nat.zero_le _)).below hb3, fun g hg => by have := (World.ownsRow.lt HRow.out g hg).2; omega⟩
  have HR3 := Lib.hid hR3
  have HB3 := Lib.hid ((HB1.out.trans (hb2.mono HB1.out.size)).trans (hb3.mono (by have := HB1.out.size; omega)))
  have HT2b := Lib.hid ((hb3.block _ (by omega)).trans ((hb2.block _ l2).trans HT2.out))
  have HT3b := Lib.hid ((hb3.block _ (by omega)).trans ((hb2.block _ l3).trans HT3.out))
  clear hw2 hb2 hw3 hb3 hR3
  go_wp2_with fail
  rw [← HW3.out]
  refine (HAll.out (w1.heap.size + 1) 1 0 0 w3 (by omega) (by omega) (Nat.zero_le _) (Nat.zero_le _) (by unfold needJ; simp only; omega) HR3.out).mono ?_
  intro e w4 hv4
  have hsw : w.heap.size + 1 < w2.heap.size := by have := HB1.out.size; omega
  obtain ⟨cs4, rfl, hO4, hR4, hA4⟩ := ValE.isGood HQ.out hv4
  obtain ⟨U4, u44, U5, u55, rfl, -⟩ := hO4.flat
  have hs4 := hA4.size
  have hB4 : Below w.heap.size w w4 := HB3.out.trans (hA4.below HB3.out.size (fun i hi => by have := HB1.out.size; omega))
  have HT2c := Lib.hid ((hA4.block _ (by omega) (by omega)).trans HT2b.out)
  have HT3c := Lib.hid ((hA4.block _ (by omega) (by omega)).trans HT3b.out)
  have dp : (p : Int) < L.length := by omega
  have HR4 := Lib.hid hR4
  obtain ⟨A5, c5, hbx, -, -⟩ := hR4
  unfold rdC at hbx
  obtain ⟨a0, a1, a2, a3, a4, a5, a6, af⟩ := row7r hbx
  have lb := row_lt hbx
  clear hbx
  have a4' : w4.cell? ⟨w1.heap.size + 1, 4, none⟩ = some (.int .i64 0) := a4
  clear hgd hv4 hA4 a4 hO4
  go_wp2_with fail
  refine (c_rd_fail_new L s.size 4 (w1.heap.size + 1) p m flt0 _ (by omega) (HR4.out.below bel) rfl).mono ?_
  rintro e w6 ⟨rfl, hR6, hA6⟩
  have hs6 := hA6.size
  simp at hs6
  have hB6 : Below w.heap.size w w6 := Below.trans (b := w4.alloc (.cells #[.int .i64 t.kind, .bool t.flag, .int .i64 t.num, .string t.text, .slice U4 t.keys.length u44, .slice U5 t.kids.length u55] 27)) bel (hA6.below (by simp; have := hB4.size; omega) (fun i hi => by have := HB1.out.size; omega))
  have HT2d := (hA6.block _ (by simp; omega) (by omega)).trans ((Below.heap_alloc _ _ _ (by omega)).trans HT2c.out)
  have HT3d := (hA6.block _ (by simp; omega) (by omega)).trans ((Below.heap_alloc _ _ _ (by omega)).trans HT3c.out)
  clear a0 a1 a2 a3 a4' a5 a6 af
  obtain ⟨f, hfe⟩ : ∃ f, f = badF L s.size 4 p := ⟨_, rfl⟩
  rw [← hfe] at hR6
  have HR2 := Lib.hid (show r = (f, treeZ) by rw [hfe]; exact HR.out)
  have hgc : f.code = 4 := by rw [hfe]; rfl
  clear hfe HR
  have HR := HR2
  obtain ⟨gc, ga, gp⟩ := f
  change gc = 4 at hgc
  subst hgc
  obtain ⟨A5, c5, hbx, -, -⟩ := hR6
  unfold rdC at hbx
  obtain ⟨a0, a1, a2, a3, a4, a5, a6, af⟩ := row7r hbx
  have lb := row_lt hbx
  clear hbx
  obtain ⟨x0, x1, x2, x3, x4, x5, xf⟩ := row6 HT2d
  obtain ⟨y0, y1, y2, yf⟩ := row3 HT3d
  have m2 := row_lt HT2d
  have m3 := row_lt HT3d
  clear HT2d HT3d hA6
  go_upto_region 9 with fail
  go_region_law (fail)
  all_goals
    (try go_wp2_with fail)
    exact bodyPost_ret (v := .tuple #[.agg #[.int .i64 0, .bool false, .int .i64 0, .string ⟨#[]⟩, .slice none 0 0, .slice none 0 0], .agg #[.int .i64 4, .int .i64 ga, .string gp]]) (by simp only [results, Tryz.results15]; go_simp) rfl (ReadE.bad HR.out bel)
set_option maxHeartbeats 8000000 in
set_option maxRecDepth 20000 in
theorem c_rdb_good (s : ByteArray) (w : World) (hs : s.size ≤ 1048576) (hV : CTab w) (hT : Tabs w) (hE : ErrR w) (t : TreeD) (p m : Nat) (hf : (signsF s).2.code = 0) (hq : readJ (signsF s).1 s.size (2 * (signsF s).1.length + 4) (.value 1) 0 0 = .good t p m) (hp : ¬ p < (signsF s).1.length) :
    Calls Tryz.prog 15 #[.string s] w (ReadE (readB s) w) := by
  have HVT := Lib.hid (And.intro hV (And.intro hT hE))
  clear hV hT hE
  obtain ⟨r, hr⟩ : ∃ r, r = readB s := ⟨_, rfl⟩
  rw [← hr]
  have HSg := Lib.hid (signsF_ok s)
  have HSg2 := Lib.hid (c_impl_SignsOf s)
  rw [readB_good hf hq hp] at hr
  obtain ⟨L, hL⟩ : ∃ L, L = (signsF s).1 := ⟨_, rfl⟩
  obtain ⟨F, hF⟩ : ∃ F, F = (signsF s).2 := ⟨_, rfl⟩
  rw [← hL] at HSg HSg2
  rw [← hF] at HSg2
  rw [← hL] at hp
  have HR := Lib.hid hr
  rw [← hL] at hq
  have HQ := Lib.hid hq
  have hgd := readJ_good L s.size (2 * L.length + 4) (.value 1) 0 0 (Nat.zero_le _) (Nat.zero_le _) (by unfold needJ; simp only; omega)
  rw [hq] at hgd
  have hlen := HSg.out.len
  have hfc : F.code = 0 := by rw [hF]; exact hf
  have HAll := Lib.hid (fun b => all_rdI L s.size b HSg.out (2 * L.length + 4))
  clear hq hf
  clear hr hL hF
  obtain ⟨fc, fa, fp⟩ := F
  go_enter Tryz.func15, Tryz.ntmps15
  go_wp2_with fail
  refine (HSg2.out _ hs (HVT.out.1.below bel) (HVT.out.2.1.below bel) (HVT.out.2.2.below bel)).mono ?_
  rintro e w1 ⟨A, c, rfl, hrow, hb1⟩
  have hrf : fltC ⟨fc, fa, fp⟩ = #[.int .i64 fc, .int .i64 fa, .string fp] := rfl
  rw [hrf]
  have HRow := Lib.hid hrow
  have HB1 := Lib.hid (bel : Below w.heap.size w w1)
  have HT2 := Lib.hid ((hb1.block w.heap.size (by simp; omega)).trans ((Below.heap_alloc _ _ _ (by simp)).trans (heap_at (w := w) (o := .cells #[.int .i64 0, .bool false, .int .i64 0, .string ⟨#[]⟩, .slice none 0 0, .slice none 0 0] 27) rfl)))
  have HT3 := Lib.hid ((hb1.block (w.heap.size + 1) (by simp)).trans (heap_at (w := w.alloc (.cells #[.int .i64 0, .bool false, .int .i64 0, .string ⟨#[]⟩, .slice none 0 0, .slice none 0 0] 27)) (o := .cells #[.int .i64 0, .int .i64 0, .string ⟨#[]⟩] 29) (by simp)))
  have l2 := row_lt HT2.out
  have l3 := row_lt HT3.out
  clear hrow hb1 hrf
  change fc = 0 at hfc
  subst hfc
  go_upto_region 5 with fail
  obtain ⟨w2, hw2⟩ : ∃ W, W = w1.alloc (.cells #[.int .i64 0, .int .i64 fa, .string fp] 29) := ⟨_, rfl⟩
  rw [← hw2]
  have hb2 : Below w1.heap.size w1 w2 := by rw [hw2]; exact bel
  have HZ2 := Lib.hid (show w1.heap.size + 1 = w2.heap.size by rw [hw2]; simp)
  have hz2 : w1.heap.size < w2.heap.size := by rw [hw2]; simp
  have hz2a : w1.heap.size + 1 ≤ w2.heap.size := by rw [hw2]; simp
  have hz2b : w2.heap.size ≤ w1.heap.size + 1 := by rw [hw2]; simp
  obtain ⟨w3, hw3⟩ : ∃ W, W = w2.alloc (.cells #[.slice A L.length c, .int .i64 0, .int .i64 s.size, .int .i64 0, .int .i64 0, .int .i64 0, .string ⟨#[]⟩] 56) := ⟨_, rfl⟩
  have HW3 := Lib.hid hw3
  have hb3 : Below w2.heap.size w2 w3 := by rw [hw3]; exact bel
  have hz3 : w2.heap.size < w3.heap.size := by rw [hw3]; simp
  have hR3 : RdAt L s.size (w1.heap.size + 1) 0 0 flt0 w3 := ⟨A, c, by rw [hw3]; exact heap_at HZ2.out, (RowE.less (HRow.out.below hb2) (Nat.zero_le _)).below hb3, fun g hg => by have := (World.ownsRow.lt HRow.out g hg).2; omega⟩
  have HR3 := Lib.hid hR3
  have HB3 := Lib.hid ((HB1.out.trans (hb2.mono HB1.out.size)).trans (hb3.mono (by have := HB1.out.size; omega)))
  have HT2b := Lib.hid ((hb3.block _ (by omega)).trans ((hb2.block _ l2).trans HT2.out))
  have HT3b := Lib.hid ((hb3.block _ (by omega)).trans ((hb2.block _ l3).trans HT3.out))
  clear hw2 hb2 hw3 hb3 hR3
  go_wp2_with fail
  rw [← HW3.out]
  refine (HAll.out (w1.heap.size + 1) 1 0 0 w3 (by omega) (by omega) (Nat.zero_le _) (Nat.zero_le _) (by unfold needJ; simp only; omega) HR3.out).mono ?_
  intro e w4 hv4
  have hsw : w.heap.size + 1 < w2.heap.size := by have := HB1.out.size; omega
  obtain ⟨cs4, rfl, hO4, hR4, hA4⟩ := ValE.isGood HQ.out hv4
  have HO4 := Lib.hid hO4
  obtain ⟨U4, u44, U5, u55, rfl, -⟩ := hO4.flat
  have hs4 := hA4.size
  have hB4 : Below w.heap.size w w4 := HB3.out.trans (hA4.below HB3.out.size (fun i hi => by have := HB1.out.size; omega))
  have HT2c := (hA4.block _ (by omega) (by omega)).trans HT2b.out
  have HT3c := (hA4.block _ (by omega) (by omega)).trans HT3b.out
  have dp : decide ((p : Int) < L.length) = false := decide_eq_false (by omega)
  have dp2 : decide (p < L.length) = false := decide_eq_false hp
  obtain ⟨A5, c5, hbx, -, -⟩ := hR4
  unfold rdC at hbx
  obtain ⟨a0, a1, a2, a3, a4, a5, a6, af⟩ := row7r hbx
  have lb := row_lt hbx
  clear hbx
  have a4' : w4.cell? ⟨w1.heap.size + 1, 4, none⟩ = some (.int .i64 0) := a4
  obtain ⟨x0, x1, x2, x3, x4, x5, xf⟩ := row6 HT2c
  obtain ⟨y0, y1, y2, yf⟩ := row3 HT3c
  have m2 := row_lt HT2c
  have m3 := row_lt HT3c
  have HS4 := Lib.hid (show w.heap.size + 1 < w3.heap.size by omega)
  clear hgd hv4 hA4 a4 hO4 HT2c HT3c hp
  go_wp2_with fail
  refine bodyPost_ret (v := .tuple #[.agg #[.int .i64 t.kind, .bool t.flag, .int .i64 t.num, .string t.text, .slice U4 t.keys.length u44, .slice U5 t.kids.length u55], .agg #[.int .i64 0, .int .i64 0, .string ⟨#[]⟩]]) (by simp only [results, Tryz.results15]; go_simp) rfl ?_
  rw [HR.out]
  refine ⟨[.int .i64 t.kind, .bool t.flag, .int .i64 t.num, .string t.text, .slice U4 t.keys.length u44, .slice U5 t.kids.length u55], rfl, (HO4.out.up (by omega)).carry (fun x hx => Aside.block (S := fun q => q = w.heap.size ∨ q = w.heap.size + 1) (w := w4) (by repeat (first | (with_reducible exact Aside.refl _ _) | ((with_reducible refine aside_set ?_ ?_); (focus (simp; done))) | (with_reducible refine aside_alloc ?_))) x hx.2 (by have := HS4.out; have := hx.1; omega)) (fun x hx => ⟨by have := HS4.out; have := hx.1; omega, Nat.lt_of_lt_of_le hx.2 (Aside.size (S := fun q => q = w.heap.size ∨ q = w.heap.size + 1) (w := w4) (by repeat (first | (with_reducible exact Aside.refl _ _) | ((with_reducible refine aside_set ?_ ?_); (focus (simp; done))) | (with_reducible refine aside_alloc ?_))))⟩), bel⟩
theorem c_impl_ReadBraced (s : ByteArray) (w : World) (hs : s.size ≤ 1048576) (hV : CTab w) (hT : Tabs w) (hE : ErrR w) :
    Calls Tryz.prog 15 #[.string s] w (ReadE (readB s) w) := by
  by_cases hf : (signsF s).2.code = 0
  · rcases hq : readJ (signsF s).1 s.size (2 * (signsF s).1.length + 4) (.value 1) 0 0 with f | ⟨t, p, m⟩
    · exact c_rdb_bad s w hs hV hT hE f hf hq
    · by_cases hp : p < (signsF s).1.length
      · exact c_rdb_more s w hs hV hT hE t p m hf hq hp
      · exact c_rdb_good s w hs hV hT hE t p m hf hq hp
  · exact c_rdb_sign s w hs hV hT hE hf
end Go.Proofs.YtffelpdefjkeaaaGreatDoor
namespace Go.Proofs.YtffelpdefjkeaaaGreatDoor
open Go.RowKit Go.Lib
theorem szL_app {D : Type} (f : D → Nat) : ∀ a b : List D, szL f (a ++ b) = szL f a + szL f b
  | [], b => by simp [szL]
  | x :: a, b => by
    simp only [List.cons_append, szL]
    rw [szL_app f a b]
    omega
theorem szL_ins {D : Type} (f : D → Nat) (l : List D) (i : Nat) (x : D) : szL f (insL l i x) = f x + szL f l := by
  have h := szL_app f (l.take i) (l.drop i)
  rw [List.take_append_drop] at h
  unfold insL
  rw [szL_app, h]
  simp only [szL]
  omega
def bndJ (N : Nat) : Job → Nat
  | .value _ => 0
  | .list _ acc => cntL N acc
  | .pairs _ ks acc => ks.length + cntL N acc
theorem cnt_leaf (N : Nat) {t : TreeD} (h1 : t.keys = []) (h2 : t.kids = []) : cntT N t = 0 := by
  cases N with
  | zero => rfl
  | succ N => rw [cntT_succ, h1, h2]; rfl
theorem readJ_cnt (L : List SignD) (E : Int) : ∀ (n : Nat) (j : Job) (p m : Nat) (t : TreeD) (q m' : Nat), readJ L E n j p m = .good t q m' → p ≤ q ∧ ∀ N, cntT (N + 1) t ≤ bndJ N j + 5 * (q - p)
  | 0, j, p, m, t, q, m', h => by rw [readJ.eq_def] at h; cases j <;> cases h
  | n + 1, .value d, p, m, t, q, m', h => by
    rw [readJ_value] at h
    by_cases c1 : ¬ (kindAt L p = 1 ∨ kindAt L p = 3 ∨ 7 ≤ kindAt L p)
    · rw [if_pos c1] at h; cases h
    · rw [if_neg c1] at h
      by_cases c2 : 8 < d
      · rw [if_pos c2] at h; cases h
      · rw [if_neg c2] at h
        by_cases c3 : 300 ≤ m
        · rw [if_pos c3] at h; cases h
        · rw [if_neg c3] at h
          rcases hx : L[p]? with _ | x
          · rw [hx] at h; cases h
          · rw [hx] at h
            simp only at h
            by_cases c4 : x.kind = 7
            · rw [if_pos c4] at h
              by_cases c5 : 400 < x.text.size
              · rw [if_pos c5] at h; cases h
              · rw [if_neg c5] at h; cases h; exact ⟨by omega, fun N => by rw [cnt_leaf (N + 1) rfl rfl]; omega⟩
            · rw [if_neg c4] at h
              by_cases c6 : x.kind = 8
              · rw [if_pos c6] at h; cases h; exact ⟨by omega, fun N => by rw [cnt_leaf (N + 1) rfl rfl]; omega⟩
              · rw [if_neg c6] at h
                by_cases c7 : x.kind = 11
                · rw [if_pos c7] at h; cases h; exact ⟨by omega, fun N => by rw [cnt_leaf (N + 1) rfl rfl]; omega⟩
                · rw [if_neg c7] at h
                  by_cases c8 : x.kind = 3
                  · rw [if_pos c8] at h
                    by_cases c9 : kindAt L (p + 1) = 4
                    · rw [if_pos c9] at h; cases h; exact ⟨by omega, fun N => by rw [cnt_leaf (N + 1) rfl rfl]; omega⟩
                    · rw [if_neg c9] at h
                      obtain ⟨h1, h2⟩ := readJ_cnt L E n _ _ _ _ _ _ h
                      exact ⟨by omega, fun N => by
                        have h3 := h2 N
                        have h4 : bndJ N (.list d []) = 0 := rfl
                        have h5 : bndJ N (.value d) = 0 := rfl
                        omega⟩
                  · rw [if_neg c8] at h
                    by_cases c10 : x.kind = 1
                    · rw [if_pos c10] at h
                      by_cases c9 : kindAt L (p + 1) = 2
                      · rw [if_pos c9] at h; cases h; exact ⟨by omega, fun N => by rw [cnt_leaf (N + 1) rfl rfl]; omega⟩
                      · rw [if_neg c9] at h
                        obtain ⟨h1, h2⟩ := readJ_cnt L E n _ _ _ _ _ _ h
                        exact ⟨by omega, fun N => by
                          have h3 := h2 N
                          have h4 : bndJ N (.pairs d [] []) = 0 := rfl
                          have h5 : bndJ N (.value d) = 0 := rfl
                          omega⟩
                    · rw [if_neg c10] at h; cases h; exact ⟨by omega, fun N => by rw [cnt_leaf (N + 1) rfl rfl]; omega⟩
  | n + 1, .list d acc, p, m, t, q, m', h => by
    rw [readJ_list] at h
    rcases hr : readJ L E n (.value (d + 1)) p m with f | ⟨t1, q1, m1⟩
    · rw [hr] at h; cases h
    · rw [hr] at h
      simp only at h
      obtain ⟨h1, h2⟩ := readJ_cnt L E n _ _ _ _ _ _ hr
      have h0 : ∀ N, cntL N (acc ++ [t1]) ≤ cntL N acc + (4 + 5 * (q1 - p)) := fun N => by
        unfold cntL
        rw [szL_app]
        have h3 : cntT N t1 ≤ 5 * (q1 - p) := by
          cases N with
          | zero => exact Nat.zero_le _
          | succ N =>
            have h4 := h2 N
            have h5 : bndJ N (.value (d + 1)) = 0 := rfl
            omega
        simp only [szL]
        omega
      by_cases c1 : kindAt L q1 = 4
      · rw [if_pos c1] at h; cases h
        exact ⟨by omega, fun N => by
          have h4 := h0 N
          have h5 : bndJ N (.list d acc) = cntL N acc := rfl
          have h6 : cntT (N + 1) (tList (acc ++ [t1])) = cntL N (acc ++ [t1]) := by rw [cntT_succ]; exact Nat.zero_add _
          omega⟩
      · rw [if_neg c1] at h
        by_cases c2 : kindAt L q1 = 6
        · rw [if_pos c2] at h
          obtain ⟨h3, h4⟩ := readJ_cnt L E n _ _ _ _ _ _ h
          exact ⟨by omega, fun N => by
            have h5 := h4 N
            have h6 := h0 N
            have h7 : bndJ N (.list d acc) = cntL N acc := rfl
            have h8 : bndJ N (.list d (acc ++ [t1])) = cntL N (acc ++ [t1]) := rfl
            omega⟩
        · rw [if_neg c2] at h; cases h
  | n + 1, .pairs d ks acc, p, m, t, q, m', h => by
    rw [readJ_pairs] at h
    rcases hx : L[p]? with _ | x
    · rw [hx] at h; cases h
    · rw [hx] at h
      simp only at h
      by_cases c1 : x.kind ≠ 7
      · rw [if_pos c1] at h; cases h
      · rw [if_neg c1] at h
        by_cases c2 : 400 < x.text.size
        · rw [if_pos c2] at h; cases h
        · rw [if_neg c2] at h
          by_cases c3 : ks.contains x.text = true
          · rw [if_pos c3] at h; cases h
          · rw [if_neg c3] at h
            by_cases c4 : kindAt L (p + 1) ≠ 5
            · rw [if_pos c4] at h; cases h
            · rw [if_neg c4] at h
              rcases hr : readJ L E n (.value (d + 1)) (p + 2) m with f | ⟨t1, q1, m1⟩
              · rw [hr] at h; cases h
              · rw [hr] at h
                simp only at h
                obtain ⟨h1, h2⟩ := readJ_cnt L E n _ _ _ _ _ _ hr
                have hk : (insL ks (posK ks x.text) x.text).length = ks.length + 1 := ins_len (posK_le _ _)
                have h0 : ∀ N, cntL N (insL acc (posK ks x.text) t1) ≤ cntL N acc + (4 + 5 * (q1 - (p + 2))) := fun N => by
                  unfold cntL
                  rw [szL_ins]
                  have h3 : cntT N t1 ≤ 5 * (q1 - (p + 2)) := by
                    cases N with
                    | zero => exact Nat.zero_le _
                    | succ N =>
                      have h4 := h2 N
                      have h5 : bndJ N (.value (d + 1)) = 0 := rfl
                      omega
                  omega
                by_cases c5 : kindAt L q1 = 2
                · rw [if_pos c5] at h; cases h
                  exact ⟨by omega, fun N => by
                    have h4 := h0 N
                    have h5 : bndJ N (.pairs d ks acc) = ks.length + cntL N acc := rfl
                    have h6 : cntT (N + 1) (tMap (insL ks (posK ks x.text) x.text) (insL acc (posK ks x.text) t1)) = (insL ks (posK ks x.text) x.text).length + cntL N (insL acc (posK ks x.text) t1) := by rw [cntT_succ]; rfl
                    omega⟩
                · rw [if_neg c5] at h
                  by_cases c6 : kindAt L q1 = 6
                  · rw [if_pos c6] at h
                    obtain ⟨h3, h4⟩ := readJ_cnt L E n _ _ _ _ _ _ h
                    exact ⟨by omega, fun N => by
                      have h5 := h4 N
                      have h6 := h0 N
                      have h7 : bndJ N (.pairs d ks acc) = ks.length + cntL N acc := rfl
                      have h8 : bndJ N (.pairs d (insL ks (posK ks x.text) x.text) (insL acc (posK ks x.text) t1)) = (insL ks (posK ks x.text) x.text).length + cntL N (insL acc (posK ks x.text) t1) := rfl
                      omega⟩
                  · rw [if_neg c6] at h; cases h
theorem cnt_readB (s : ByteArray) : cntT 10 (readB s).2 ≤ 5242880 := by
  have h0 : cntT 10 treeZ = 0 := cnt_leaf 10 rfl rfl
  by_cases hf : (signsF s).2.code = 0
  · rcases hq : readJ (signsF s).1 s.size (2 * (signsF s).1.length + 4) (.value 1) 0 0 with f | ⟨t, p, m⟩
    · rw [readB_bad hf hq, h0]; omega
    · by_cases hp : p < (signsF s).1.length
      · rw [readB_more hf hq hp, h0]; omega
      · rw [readB_good hf hq hp]
        have h1 : cntT 10 t ≤ bndJ 9 (.value 1) + 5 * (p - 0) := (readJ_cnt _ _ _ _ _ _ _ _ _ hq).2 9
        have h2 := readJ_good (signsF s).1 s.size (2 * (signsF s).1.length + 4) (.value 1) 0 0 (Nat.zero_le _) (Nat.zero_le _) (by unfold needJ; simp only; omega)
        rw [hq] at h2
        have h3 := h2.2.1
        have h4 := (signsF_ok s).len
        have h5 : bndJ 9 (.value 1) = 0 := rfl
        show cntT 10 t ≤ 5242880
        omega
  · rw [readB_sign hf, h0]; omega
end Go.Proofs.YtffelpdefjkeaaaGreatDoor
namespace Go.Proofs.YtffelpdefjkeaaaGreatDoor
open Go.RowKit Go.Lib
theorem shape_mk {n : Nat} {d : TreeD} (h1 : badH d = false) (h2 : strB d.text = true) (h3 : lensOk d = true) (h4 : ∀ i, i < d.keys.length → keyOk d.keys i = true) (h5 : ∀ t ∈ d.kids, shapeT n t = true) : shapeT (n + 1) d = true := by
  rw [shapeT_succ, h1, h2, h3]
  have hall : ∀ {m : Nat} {p : Nat → Bool}, (∀ i, i < m → p i = true) → allR m p = true := fun {m p} ha => by
    unfold allR
    exact List.all_eq_true.2 (fun i hi => ha i (List.mem_range.1 hi))
  rw [hall h4, hall (fun i hi => by
    obtain ⟨t, ht⟩ := exists_at hi
    rw [kidAt_eq ht]
    exact h5 t (List.mem_of_getElem? ht))]
  rfl
theorem strB_empty : strB ⟨#[]⟩ = true := by
  unfold strB utf8B
  rw [runesAt_end (by decide)]
  rfl
theorem keys_ok {ks : List ByteArray} (hs : SortK ks) (hk : ∀ k ∈ ks, strB k = true) : ∀ i, i < ks.length → keyOk ks i = true := by
  intro i hi
  obtain ⟨k, hk1⟩ := exists_at hi
  have h1 := hk k (List.mem_of_getElem? hk1)
  cases i with
  | zero => rw [keyOk_zero hk1, h1]
  | succ i =>
    obtain ⟨p, hp⟩ := exists_at (show i < ks.length by omega)
    rw [keyOk_succ hk1 hp, h1]
    have h2 := List.pairwise_iff_getElem.1 hs i (i + 1) (by omega) hi (by omega)
    obtain ⟨g1, g2⟩ := List.getElem?_eq_some_iff.1 hk1
    obtain ⟨f1, f2⟩ := List.getElem?_eq_some_iff.1 hp
    rw [g2, f2] at h2
    rw [h2]
    rfl
/-- How long the items are. -/
theorem items_cost {pre : Nat → List UInt8} {f : TreeD → List UInt8} {g : Nat → Nat} {l : List TreeD} (hp : ∀ i, i < l.length → (pre i).length = g i) : ∀ k, 1 ≤ k → k ≤ l.length → (itemsT pre f l k).length + 1 = szL g (List.range k) + szL (fun t => (f t).length + 1) (l.take k)
  | 0, h, _ => by omega
  | 1, _, hk => by
    obtain ⟨t, ht⟩ := exists_at (show 0 < l.length by omega)
    have h1 := hp 0 (by omega)
    rw [items_next ht, szL_take_succ _ l 0 t ht]
    simp only [itemsT, if_true, List.nil_append, List.length_append, List.take_zero, szL, List.range_succ, List.range_zero]
    omega
  | k + 2, _, hk => by
    obtain ⟨t, ht⟩ := exists_at (show k + 1 < l.length by omega)
    have h1 := hp (k + 1) (by omega)
    have ih := items_cost (f := f) hp (k + 1) (by omega) (by omega)
    rw [items_next ht, szL_take_succ _ l (k + 1) t ht, if_neg (by omega), List.range_succ, szL_app]
    simp only [List.length_append, List.length_cons, List.length_nil, szL]
    omega
theorem szL_zero {D : Type} (l : List D) : szL (fun _ => 0) l = 0 := by
  induction l with
  | nil => rfl
  | cons x l ih => simp only [szL]; omega
/-- The keys' part, told by the keys. -/
theorem szL_keys (q : ByteArray → Nat) (ks : List ByteArray) : ∀ k, k ≤ ks.length → szL (fun i => match ks[i]? with | none => 0 | some x => q x) (List.range k) = szL q (ks.take k)
  | 0, _ => rfl
  | k + 1, hk => by
    obtain ⟨x, hx⟩ := exists_at (show k < ks.length by omega)
    rw [List.range_succ, szL_app, szL_keys q ks k (by omega), szL_take_succ q ks k x hx]
    simp only [szL]
    rw [hx]
    rfl
def qlen (k : ByteArray) : Nat := (quoteB k).data.toList.length + 1
theorem list_len {n : Nat} {l : List TreeD} (h : l ≠ []) : (sayL (n + 1) (tList l)).length = 1 + szL (fun t => (sayL n t).length + 1) l := by
  have hl : 0 < l.length := List.length_pos_iff.2 h
  have h1 := items_cost (pre := fun _ => []) (f := sayL n) (g := fun _ => 0) (l := l) (fun _ _ => rfl) l.length (by omega) (Nat.le_refl _)
  rw [szL_zero, List.take_length] at h1
  show ([91] ++ itemsT (fun _ => []) (sayL n) l l.length ++ [93]).length = _
  simp only [List.length_append, List.length_cons, List.length_nil]
  omega
theorem map_len {n : Nat} {ks : List ByteArray} {l : List TreeD} (h : l ≠ []) (hk : ks.length = l.length) : (sayL (n + 1) (tMap ks l)).length = 1 + szL qlen ks + szL (fun t => (sayL n t).length + 1) l := by
  have hl : 0 < l.length := List.length_pos_iff.2 h
  have h1 := items_cost (pre := preM ks) (f := sayL n) (g := fun i => match ks[i]? with | none => 0 | some x => qlen x) (l := l) (fun i hi => by
    obtain ⟨x, hx⟩ := exists_at (show i < ks.length by omega)
    unfold preM qlen
    rw [hx]
    simp) l.length (by omega) (Nat.le_refl _)
  rw [szL_keys qlen ks l.length (by omega), List.take_length, ← hk, List.take_length] at h1
  show ([123] ++ itemsT (preM ks) (sayL n) l l.length ++ [125]).length = _
  rw [← hk]
  simp only [List.length_append, List.length_cons, List.length_nil]
  omega
def CL (L : List SignD) (p : Nat) : Nat := szL costX (L.take p)
theorem CL_succ {L : List SignD} {p : Nat} {x : SignD} (h : L[p]? = some x) : CL L (p + 1) = CL L p + costX x := szL_take_succ costX L p x h
theorem at_kind {L : List SignD} {p : Nat} {k : Int} (h : kindAt L p = k) (hk : k ≠ 0) : ∃ x, L[p]? = some x ∧ x.kind = k := by
  unfold kindAt at h
  rcases hx : L[p]? with _ | x
  · rw [hx] at h; exact absurd h.symm hk
  · rw [hx] at h; exact ⟨x, rfl, h⟩
theorem CL_mark {L : List SignD} {p : Nat} {k : Int} (h : kindAt L p = k) (h1 : 1 ≤ k ∧ k ≤ 6) : CL L (p + 1) = CL L p + 1 := by
  obtain ⟨x, hx, hk⟩ := at_kind h (by omega)
  rw [CL_succ hx]
  unfold costX
  rw [if_neg (by omega), if_neg (by omega), if_neg (by omega), if_neg (by omega)]
/-- A value that was read at depth d. -/
structure VOk (N d : Nat) (t : TreeD) : Prop where
  shape : shapeT N t = true
  num : numT N t
  deep : depthT N t + d ≤ 9
def JobOk (L : List SignD) (j : Job) (p m : Nat) (t : TreeD) (q m' : Nat) : Prop := match j with
  | .value d => ∀ N, N + d = 11 → VOk N d t ∧ m' = m + sizeT N t ∧ m' ≤ 300 ∧ CL L p + (sayL N t).length ≤ CL L q
  | .list d acc => ∀ N, N + d = 10 → ∃ more, more ≠ [] ∧ t = tList (acc ++ more) ∧ (∀ x ∈ more, VOk N (d + 1) x) ∧ m' = m + szL (sizeT N) more ∧ m' ≤ 300 ∧ CL L p + szL (fun x => (sayL N x).length + 1) more ≤ CL L q
  | .pairs d ks acc => ∀ N, N + d = 10 → ks.length = acc.length → SortK ks → (∀ k ∈ ks, strB k = true) → (∀ x ∈ acc, VOk N (d + 1) x) → ∃ ks' l', t = tMap ks' l' ∧ ks'.length = l'.length ∧ l' ≠ [] ∧ SortK ks' ∧ (∀ k ∈ ks', strB k = true) ∧ (∀ x ∈ l', VOk N (d + 1) x) ∧
      m' + szL (sizeT N) acc = m + szL (sizeT N) l' ∧ m' ≤ 300 ∧ CL L p + szL qlen ks' + szL (fun x => (sayL N x).length + 1) l' ≤ CL L q + szL qlen ks + szL (fun x => (sayL N x).length + 1) acc
theorem num_leaf {N : Nat} {t : TreeD} (h : I64 t.num) (hk : t.kids = []) : numT (N + 1) t := ⟨h, fun x hx => by rw [hk] at hx; cases hx⟩
theorem leaf_ok {N d : Nat} {t : TreeD} (hd : d ≤ 8) (h1 : badH t = false) (h2 : strB t.text = true) (h3 : lensOk t = true) (h4 : t.keys = []) (h5 : t.kids = []) (h6 : I64 t.num) : VOk (N + 1) d t ∧ sizeT (N + 1) t = 1 := by
  refine ⟨⟨shape_mk h1 h2 h3 (fun i hi => by rw [h4] at hi; simp at hi) (fun x hx => by rw [h5] at hx; cases hx), num_leaf h6 h5, ?_⟩, ?_⟩
  · rw [depthT_succ, h5]
    simp only [mxL]
    omega
  · rw [sizeT_succ, h5]
    rfl
theorem mxL_le {D : Type} {f : D → Nat} {b : Nat} : ∀ {l : List D}, (∀ x ∈ l, f x ≤ b) → mxL f l ≤ b
  | [], _ => Nat.zero_le _
  | x :: l, h => by
    have h1 := h x (by simp)
    have h2 := mxL_le (f := f) (l := l) (fun y hy => h y (by simp [hy]))
    simp only [mxL]
    omega
theorem list_ok {N d : Nat} {l : List TreeD} (hd : d ≤ 8) (h : ∀ x ∈ l, VOk N (d + 1) x) : VOk (N + 1) d (tList l) := by
  refine ⟨shape_mk (by unfold badH tList inB; simp) strB_empty (by unfold lensOk tList; simp) (fun i hi => by simp [tList] at hi) (fun x hx => (h x hx).shape), ⟨i64_zero, fun x hx => (h x hx).num⟩, ?_⟩
  rw [depthT_succ]
  have := mxL_le (f := depthT N) (b := 8 - d) (l := l) (fun x hx => by have := (h x hx).deep; omega)
  show mxL (depthT N) l + 1 + d ≤ 9
  omega
theorem map_ok {N d : Nat} {ks : List ByteArray} {l : List TreeD} (hd : d ≤ 8) (hk : ks.length = l.length) (hs : SortK ks) (hst : ∀ k ∈ ks, strB k = true) (h : ∀ x ∈ l, VOk N (d + 1) x) : VOk (N + 1) d (tMap ks l) := by
  refine ⟨shape_mk (by unfold badH tMap inB; simp) strB_empty (by unfold lensOk tMap; simp [hk]) (keys_ok hs hst) (fun x hx => (h x hx).shape), ⟨i64_zero, fun x hx => (h x hx).num⟩, ?_⟩
  rw [depthT_succ]
  have := mxL_le (f := depthT N) (b := 8 - d) (l := l) (fun x hx => by have := (h x hx).deep; omega)
  show mxL (depthT N) l + 1 + d ≤ 9
  omega
end Go.Proofs.YtffelpdefjkeaaaGreatDoor
namespace Go.Proofs.YtffelpdefjkeaaaGreatDoor
open Go.RowKit Go.Lib
/-- From w to w' only v's own block and new blocks changed; v' lies in v's block or in a new one. -/
structure Grb (w : World) (v : Value) (w' : World) (v' : Value) : Prop where
  grown : w.grownBy w' v.ownBlock
  at' : ∀ q, v'.ownBlock = some q → v.ownBlock = some q ∨ w.heap.size ≤ q
theorem Grb.trans {w w1 w2 : World} {v v1 v2 : Value} (h : Grb w v w1 v1) (k : Grb w1 v1 w2 v2) : Grb w v w2 v2 := by
  have hs := h.grown.size
  refine ⟨⟨k.grown.os.trans h.grown.os, k.grown.tape.trans h.grown.tape, k.grown.output.trans h.grown.output, Nat.le_trans h.grown.size k.grown.size, fun q h1 h2 => ?_⟩, fun q hq => ?_⟩
  · refine (k.grown.block q (by omega) (fun e => ?_)).trans (h.grown.block q h1 h2)
    rcases h.at' q e.symm with h3 | h3
    · exact h2 h3.symm
    · omega
  · rcases k.at' q hq with h3 | h3
    · exact h.at' q h3
    · exact .inr (by omega)
theorem Grb.of {w w' : World} (v : Value) (h : Below w.heap.size w w') : Grb w v w' v := ⟨⟨h.os, h.tape, h.output, h.size, fun q h1 _ => h.block q h1⟩, fun _ hq => .inl hq⟩
theorem Grb.below {base : Nat} {w w' : World} {v v' : Value} {n : Nat} {xs : List Value} {e : TypeId} {z : Nat} (h : Grb w v w' v') (ho : w.ownsRow base e z v n xs) (hb : base ≤ w.heap.size) : Below base w w' :=
  Below.grown (Below.refl base w) h.grown hb (fun q hq => (World.ownsRow.lt ho q hq).1)
theorem Grb.keep {w w' : World} {v v' : Value} {q : Nat} (h : Grb w v w' v') (h1 : q < w.heap.size) (h2 : v.ownBlock ≠ some q) : w'.heap[q]? = w.heap[q]? := h.grown.block q h1 (fun e => h2 e.symm)
theorem Grb.of_at {w w' : World} {v v' : Value} (h : w.grownBy w' v.ownBlock) (ha : v'.ownBlock = v.ownBlock ∨ v'.ownBlock = some w.heap.size) : Grb w v w' v' :=
  ⟨h, fun q hq => by
    rcases ha with h1 | h1
    · exact .inl (h1 ▸ hq)
    · rw [hq] at h1
      exact .inr (by have := Option.some.inj h1; omega)⟩
/-- A row of bytes, its slice told with its length n. -/
def BufN (base : Nat) (w : World) (M : List UInt8) (n : Nat) (v : Value) : Prop := n = M.length ∧ w.ownsRow base 5 1 v n (Lib.strCells ⟨M.toArray⟩)
theorem BufN.below {base n : Nat} {w w' : World} {M : List UInt8} {v : Value} (h : BufN base w M n v) (hb : Below w.heap.size w w') : BufN base w' M n v := ⟨h.1, ownsRow_carry h.2 (fun q hq => hb.block q (World.ownsRow.lt h.2 q hq).2)⟩
theorem BufN.lt {base n : Nat} {w : World} {M : List UInt8} {v : Value} (h : BufN base w M n v) {q : Nat} (hq : v.ownBlock = some q) : base ≤ q ∧ q < w.heap.size := World.ownsRow.lt h.2 q hq
/-- Bytes written out, appended. -/
theorem bufN_lit (wx : World) (base n c k : Nat) (A : Option Addr) (M bs : List UInt8) (cs : List Value) (h : BufN base wx M n (.slice A n c)) (hk : k = bs.length) (hcs : cs = Lib.strCells ⟨bs.toArray⟩) (hsz : n + k ≤ 2147483648) (hk2 : k ≤ 1048576) (hbase : base ≤ wx.heap.size) :
    ∃ (A' : Option Addr) (c' : Nat) (w' : World), (Builtin.append_ #[37, 37] 37 #[.slice A n c, .slice (some ⟨wx.heap.size, 0, none⟩) k k]).run Tryz.prog (wx.alloc (.cells cs.toArray 5)) = .ok (.slice A' (n + k) c') w' ∧ BufN base w' (M ++ bs) (n + k) (.slice A' (n + k) c') ∧ Grb wx (.slice A n c) w' (.slice A' (n + k) c') := by
  obtain ⟨i0, hi, hz0, hz1, hz2⟩ := info_parts (show (Tryz.prog.info? 5).map (fun i => (i.zero, i.size, i.bytes)) = some (some (.int .u8 0), 1, 1) from by kernel_rfl)
  obtain ⟨hn, h⟩ := h
  have hb : Below wx.heap.size wx (wx.alloc (.cells cs.toArray 5)) := bel
  have h' := ownsRow_carry h (fun q hq => hb.block q (World.ownsRow.lt h q hq).2)
  obtain ⟨v', w', hr, h2, h3, h5⟩ := run_append_row (P := Tryz.prog) (wx.alloc (.cells cs.toArray 5)) 37 37 base 5 i0 (.int .u8 0) 1 1 Tryz.underlying37 hi hz0 hz1 hz2 rfl (by decide) (.slice A n c) n _ h' wx.heap.size k _ _ (own_lit hk hk2 hcs) (cells_one bs) (by unfold maxLen; omega) (by omega) (by simp; omega)
  obtain ⟨A', c', rfl⟩ := own_form h2
  refine ⟨A', c', w', hr, ⟨by rw [List.length_append, ← hn, ← hk], ?_⟩, (Grb.of _ hb).trans (Grb.of_at h3 h5)⟩
  rw [strCells_list] at h2
  exact h2
/-- A text appended: where the row lies then. -/
theorem run_str_at (w : World) (base n c : Nat) (A : Option Addr) (xs : List Value) (hown : w.ownsRow base 5 1 (.slice A n c) n xs) (s : ByteArray) (hsz : n + s.size ≤ 2147483648) (hbase : base ≤ w.heap.size) :
    ∃ (A' : Option Addr) (c' : Nat) (w' : World), (Builtin.append_ #[37, 9] 37 #[.slice A n c, .string s]).run Tryz.prog w = .ok (.slice A' (n + s.size) c') w' ∧ w'.ownsRow base 5 1 (.slice A' (n + s.size) c') (n + s.size) (xs ++ Lib.strCells s) ∧ Grb w (.slice A n c) w' (.slice A' (n + s.size) c') := by
  obtain ⟨i0, hi, hz0, hz1, hz2⟩ := info_parts (show (Tryz.prog.info? 5).map (fun i => (i.zero, i.size, i.bytes)) = some (some (.int .u8 0), 1, 1) from by kernel_rfl)
  obtain ⟨v', w', hr, h2, h3, h4⟩ := run_append_own_string (P := Tryz.prog) w base 37 9 37 5 i0 Tryz.underlying37 Tryz.underlying9 hi hz0 hz1 hz2 (.slice A n c) n xs hown s (by unfold maxLen; omega) (by omega) hbase
  obtain ⟨A', c', rfl⟩ := own_form h2
  refine ⟨A', c', w', hr, h2, h3, ?_⟩
  rcases hown.2 with ⟨e1, e2⟩ | ⟨g, cap, cur, e1, hb, hg, hnc, hcm, hcs, ht⟩
  · obtain ⟨v2, w2, hr2, k2, -⟩ := run_append_own_string (P := Tryz.prog) w w.heap.size 37 9 37 5 i0 Tryz.underlying37 Tryz.underlying9 hi hz0 hz1 hz2 (.slice A n c) n xs ⟨hown.1, .inl ⟨e1, e2⟩⟩ s (by unfold maxLen; omega) (by omega) (Nat.le_refl _)
    rw [hr] at hr2
    simp only [Result.ok.injEq] at hr2
    obtain ⟨rfl, rfl⟩ := hr2
    exact fun q hq => .inr (World.ownsRow.lt k2 q hq).1
  · cases e1
    by_cases hroom : n + s.size ≤ c
    · have hr2 := run_append_room_string (P := Tryz.prog) w 37 9 37 5 i0 Tryz.underlying37 Tryz.underlying9 hi hz1 g n c cur hg s hroom (by omega)
      rw [hr] at hr2
      simp only [Result.ok.injEq, Value.slice.injEq] at hr2
      obtain ⟨⟨rfl, -, rfl⟩, -⟩ := hr2
      exact fun q hq => .inl hq
    · have hr2 := run_append_grow_string (P := Tryz.prog) w 37 9 37 5 i0 (.int .u8 0) Tryz.underlying37 Tryz.underlying9 hi hz0 ⟨g, 0, none⟩ n c xs (by rw [hz1]; exact hown.1) (by
        intro j u hu
        rw [← ht, List.getElem?_take] at hu
        rw [add_at, cell_of_row w g _ cur _ _ hg]
        split at hu
        · simpa using hu
        · cases hu) s (by omega) (by omega) (by rw [hz2]; exact growslice_fits (by omega) (by omega))
      rw [hr] at hr2
      simp only [Result.ok.injEq, Value.slice.injEq] at hr2
      obtain ⟨⟨rfl, -, rfl⟩, -⟩ := hr2
      intro q hq
      simp [Value.ownBlock] at hq
      exact .inr (by omega)
theorem bufN_str (w : World) (base n c : Nat) (A : Option Addr) (M : List UInt8) (s : ByteArray) (h : BufN base w M n (.slice A n c)) (hsz : n + s.size ≤ 2147483648) (hbase : base ≤ w.heap.size) :
    ∃ (A' : Option Addr) (c' : Nat) (w' : World), (Builtin.append_ #[37, 9] 37 #[.slice A n c, .string s]).run Tryz.prog w = .ok (.slice A' (n + s.size) c') w' ∧ BufN base w' (M ++ s.data.toList) (n + s.size) (.slice A' (n + s.size) c') ∧ Grb w (.slice A n c) w' (.slice A' (n + s.size) c') := by
  obtain ⟨A', c', w', hr, h2, h3⟩ := run_str_at w base n c A _ h.2 s hsz hbase
  rw [strCells_list] at h2
  exact ⟨A', c', w', hr, ⟨by rw [List.length_append, ← h.1, Array.length_toList]; rfl, h2⟩, h3⟩
theorem wpList_append_to {P : Program} {w : World} {ops : Array Oper} {rest : List Oper} {o : Oper} {a : Act} {Q : Exit → Act → World → Prop} (hgd : o.guard = none) (s x : Operand) (t t2 : TypeId)
    (ho : o.op = .call { callee := .builtin .append, args := #[s, x], argTypes := #[t, t2] }) (v u v' : Value) (w' : World) (hs : a.eval s = v) (hx : a.eval x = u)
    (hr : (Builtin.append_ #[t, t2] o.type #[v, u]).run P w = .ok v' w') (h : wpList P ops Q rest (a.put o.dst v') w') : wpList P ops Q (o :: rest) a w :=
  wpList_plain hgd fun K hK => by
    unfold Oper.wp execOp
    simp only [ho, resolve, invoke, builtin, Sem.run_bind, Sem.run_pure, Result.andThen_ok, List.map_toArray, List.map_cons, List.map_nil, hs, hx, hr]
    exact hK _ _ h
def boolL (f : Bool) : List UInt8 := if f then litT else litF
set_option maxHeartbeats 2000000 in
theorem c_AppendBoolI (f : Bool) (w : World) (base n c : Nat) (A : Option Addr) (M : List UInt8) (h : BufN base w M n (.slice A n c)) (hsz : n ≤ 1073741824) (hbase : base ≤ w.heap.size) :
    Calls Tryz.prog 115 #[.slice A n c, .bool f] w fun e w' => ∃ (A' : Option Addr) (c' : Nat), e = .returned (.slice A' (n + (boolL f).length) c') ∧ BufN base w' (M ++ (boolL f)) (n + (boolL f).length) (.slice A' (n + (boolL f).length) c') ∧ Grb w (.slice A n c) w' (.slice A' (n + (boolL f).length) c') := by
  cases f with
  | true =>
    obtain ⟨A5, c5, w5, hr5, h5, g5⟩ := bufN_str w base n c A M ⟨#[116, 114, 117, 101]⟩ h (by show n + 4 ≤ _; omega) hbase
    have H5 := Lib.hid (And.intro h5 g5)
    clear h h5 g5
    go_enter Tryz.func115, Tryz.ntmps115
    go_wp2_with (at_builtin; refine wpList_append_to rfl (.tmp 6) (.const (.string ⟨#[116, 114, 117, 101]⟩)) 37 9 rfl _ _ _ w5 rfl rfl hr5 ?_)
    go_ret
    exact ⟨A5, c5, rfl, H5.out.1, H5.out.2⟩
  | false =>
    obtain ⟨A5, c5, w5, hr5, h5, g5⟩ := bufN_str w base n c A M ⟨#[102, 97, 108, 115, 101]⟩ h (by show n + 5 ≤ _; omega) hbase
    have H5 := Lib.hid (And.intro h5 g5)
    clear h h5 g5
    go_enter Tryz.func115, Tryz.ntmps115
    go_wp2_with (at_builtin; refine wpList_append_to rfl (.tmp 8) (.const (.string ⟨#[102, 97, 108, 115, 101]⟩)) 37 9 rfl _ _ _ w5 rfl rfl hr5 ?_)
    go_ret
    exact ⟨A5, c5, rfl, H5.out.1, H5.out.2⟩
theorem c_AppendBool (f : Bool) (w : World) (base n c : Nat) (A : Option Addr) (M : List UInt8) (h : BufN base w M n (.slice A n c)) (hsz : n ≤ 1073741824) (hbase : base ≤ w.heap.size) :
    Calls Tryz.prog 83 #[.slice A n c, .bool f] w fun e w' => ∃ (A' : Option Addr) (c' : Nat), e = .returned (.slice A' (n + (boolL f).length) c') ∧ BufN base w' (M ++ (boolL f)) (n + (boolL f).length) (.slice A' (n + (boolL f).length) c') ∧ Grb w (.slice A n c) w' (.slice A' (n + (boolL f).length) c') := by
  have HC := Lib.hid (c_AppendBoolI f w base n c A M h hsz hbase)
  obtain ⟨r, hr⟩ : ∃ r, r = boolL f := ⟨_, rfl⟩
  rw [← hr] at HC ⊢
  clear h hr
  go_enter Tryz.func83, Tryz.ntmps83
  go_wp2_with fail
  refine HC.out.mono ?_
  rintro e w1 ⟨A', c', rfl, h1, h2⟩
  have H12 := Lib.hid (And.intro h1 h2)
  clear h1 h2
  go_wp2_with fail
  go_ret
  exact ⟨A', c', rfl, H12.out.1, H12.out.2⟩
end Go.Proofs.YtffelpdefjkeaaaGreatDoor
namespace Go.Proofs.YtffelpdefjkeaaaGreatDoor
open Go.Shelf
def laysItoa_ren : Go.Shelf.Ren := ⟨fun | 171 => 116 | 243 => 139 | 246 => 152 | 283 => 163 | 284 => 164 | 285 => 165 | 286 => 166 | 129 => 177 | 317 => 176 | 318 => 178 | 319 => 179 | 320 => 180 | 337 => 189 | 338 => 190 | n => n, fun | 3 => 3 | 9 => 9 | 2 => 2 | 4 => 4 | 171 => 149 | 0 => 0 | 53 => 150 | 37 => 37 | 5 => 5 | 173 => 153 | 212 => 169 | 51 => 170 | 20 => 20 | 213 => 171 | 46 => 126 | 232 => 189 | 233 => 190 | n => n, fun | 17 => 5 | 18 => 7 | 19 => 8 | n => n⟩
theorem laysItoa : Go.Proofs.LaysM.n171 Tryz.prog laysItoa_ren := {
  mixed := by kernel_rfl
  f129 := Tryz.func177.trans (congrArg some (by kernel_rfl))
  f171 := Tryz.func116.trans (congrArg some (by kernel_rfl))
  f243 := Tryz.func139.trans (congrArg some (by kernel_rfl))
  f246 := Tryz.func152.trans (congrArg some (by kernel_rfl))
  f283 := Tryz.func163.trans (congrArg some (by kernel_rfl))
  f284 := Tryz.func164.trans (congrArg some (by kernel_rfl))
  f285 := Tryz.func165.trans (congrArg some (by kernel_rfl))
  f286 := Tryz.func166.trans (congrArg some (by kernel_rfl))
  f317 := Tryz.func176.trans (congrArg some (by kernel_rfl))
  f318 := Tryz.func178.trans (congrArg some (by kernel_rfl))
  f319 := Tryz.func179.trans (congrArg some (by kernel_rfl))
  f320 := Tryz.func180.trans (congrArg some (by kernel_rfl))
  f337 := Tryz.func189.trans (congrArg some (by kernel_rfl))
  f338 := Tryz.func190.trans (congrArg some (by kernel_rfl))
  t0 := Tryz.underlying0
  a0 := Tryz.isAgg0
  z0 := Tryz.sizeOf0
  v0 := Tryz.zeroValue0
  t2 := Tryz.underlying2
  a2 := Tryz.isAgg2
  z2 := Tryz.sizeOf2
  v2 := Tryz.zeroValue2
  t3 := Tryz.underlying3
  a3 := Tryz.isAgg3
  z3 := Tryz.sizeOf3
  v3 := Tryz.zeroValue3
  t4 := Tryz.underlying4
  a4 := Tryz.isAgg4
  z4 := Tryz.sizeOf4
  v4 := Tryz.zeroValue4
  t5 := Tryz.underlying5
  a5 := Tryz.isAgg5
  z5 := Tryz.sizeOf5
  v5 := Tryz.zeroValue5
  t9 := Tryz.underlying9
  a9 := Tryz.isAgg9
  z9 := Tryz.sizeOf9
  v9 := Tryz.zeroValue9
  t20 := Tryz.underlying20
  a20 := Tryz.isAgg20
  z20 := Tryz.sizeOf20
  v20 := Tryz.zeroValue20
  t37 := Tryz.underlying37
  a37 := Tryz.isAgg37
  z37 := Tryz.sizeOf37
  v37 := Tryz.zeroValue37
  t46 := Tryz.underlying126
  a46 := Tryz.isAgg126
  z46 := Tryz.sizeOf126
  v46 := Tryz.zeroValue126
  t51 := Tryz.underlying170
  a51 := Tryz.isAgg170
  z51 := Tryz.sizeOf170
  v51 := Tryz.zeroValue170
  t53 := Tryz.underlying150
  a53 := Tryz.isAgg150
  z53 := Tryz.sizeOf150
  v53 := Tryz.zeroValue150
  t171 := Tryz.underlying149
  a171 := Tryz.isAgg149
  z171 := Tryz.sizeOf149
  v171 := Tryz.zeroValue149
  t173 := Tryz.underlying153
  a173 := Tryz.isAgg153
  z173 := Tryz.sizeOf153
  v173 := Tryz.zeroValue153
  t212 := Tryz.underlying169
  a212 := Tryz.isAgg169
  z212 := Tryz.sizeOf169
  v212 := Tryz.zeroValue169
  t213 := Tryz.underlying171
  a213 := Tryz.isAgg171
  z213 := Tryz.sizeOf171
  t232 := Tryz.underlying189
  a232 := Tryz.isAgg189
  z232 := Tryz.sizeOf189
  v232 := Tryz.zeroValue189
  t233 := Tryz.underlying190
  a233 := Tryz.isAgg190
  z233 := Tryz.sizeOf190
  v233 := Tryz.zeroValue190
  g17 := by kernel_rfl
  g18 := by kernel_rfl
  g19 := by kernel_rfl
  i0 := by kernel_rfl
  i2 := by kernel_rfl
  i3 := by kernel_rfl
  i4 := by kernel_rfl
  i5 := by kernel_rfl
  i9 := by kernel_rfl
  i20 := by kernel_rfl
  i37 := by kernel_rfl
  i46 := by kernel_rfl
  i51 := by kernel_rfl
  i53 := by kernel_rfl
  i171 := by kernel_rfl
  i173 := by kernel_rfl
  i212 := by kernel_rfl
  i232 := by kernel_rfl
  i233 := by kernel_rfl
  m17 := by kernel_rfl
  m18 := by kernel_rfl
  m19 := by kernel_rfl }
end Go.Proofs.YtffelpdefjkeaaaGreatDoor
namespace Go.Proofs.YtffelpdefjkeaaaGreatDoor
open Go.RowKit
/-- The library's table of powers is laid. -/
def Pow (w : World) : Prop := Lib.TabIs Tryz.prog w "internal/strconv.uint64pow10" .u64 Lib.pow10Tab
theorem Pow.below {w w' : World} (h : Pow w) (hb : Below w.heap.size w w') : Pow w' := by
  unfold Pow Lib.TabIs World.var? at h ⊢
  cases hg : Tryz.prog.globalNamed "internal/strconv.uint64pow10" with
  | none => rw [hg] at h; cases h
  | some g =>
    rw [hg] at h
    simp only [Option.bind_some] at h ⊢
    have hlt : g < w.heap.size := by
      rcases Nat.lt_or_ge g w.heap.size with h' | h'
      · exact h'
      · rw [Array.getElem?_eq_none h'] at h
        cases h
    rw [hb.block g hlt]
    exact h
theorem below_grow (w : World) (k : Nat) (os : Array Obj) : Below w.heap.size w (Go.Sort.grow (w.drewN k) os) :=
  ⟨rfl, rfl, rfl, by show w.heap.size ≤ (w.heap ++ os).size; simp, fun i hi => by
    show (w.heap ++ os)[i]? = w.heap[i]?
    rw [Array.getElem?_append_left hi]⟩
theorem c_strconv_Itoa (n : Int) (w : World) (hn : -9223372036854775808 ≤ n ∧ n ≤ 9223372036854775807) (hp : Pow w) :
    Calls Tryz.prog 116 #[.int .i64 n] w fun e w' => e = .returned (.string (decS n)) ∧ Below w.heap.size w w' := by
  have h := Any.strconv_Itoa laysItoa n hn.1 hn.2 w hp
  change Calls Tryz.prog 116 _ _ _ at h
  refine h.mono ?_
  rintro e w' ⟨rfl, k, os, rfl⟩
  exact ⟨rfl, below_grow w k os⟩
theorem c_impl_Decimal (n : Int) (w : World) (hn : -9223372036854775808 ≤ n ∧ n ≤ 9223372036854775807) (hp : Pow w) :
    Calls Tryz.prog 84 #[.int .i64 n] w fun e w' => e = .returned (.string (decS n)) ∧ Below w.heap.size w w' := by
  have Hp := Lib.hid hp
  clear hp
  go_enter Tryz.func84, Tryz.ntmps84
  go_wp2_with fail
  refine (c_strconv_Itoa n _ hn Hp.out).mono ?_
  rintro e w1 ⟨rfl, hb⟩
  go_wp2_with fail
  go_ret
  exact ⟨rfl, hb⟩
end Go.Proofs.YtffelpdefjkeaaaGreatDoor
namespace Go.Proofs.YtffelpdefjkeaaaGreatDoor
open Go.RowKit
theorem C_Tree.old {n lo hi : Nat} {w w' : World} {d : TreeD} {cs : List Value} (h : C_Tree n lo hi w d cs) (hb : Below hi w w') : C_Tree n lo hi w' d cs := h.keep (same_below hb) (Nat.le_refl _) (Nat.le_refl _)
end Go.Proofs.YtffelpdefjkeaaaGreatDoor
