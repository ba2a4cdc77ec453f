/- Written by wip/tools/pack.py: the texts that FnOrder needs, without what it does not need. No conditions. -/
import Derived.Test.YtffelpdefjkeaaaGreatDoorKFnOrder25
import Derived.Test.YtffelpdefjkeaaaGreatDoorKFnOrder24
import Derived.Test.YtffelpdefjkeaaaGreatDoorKFnOrder19
import Derived.Test.YtffelpdefjkeaaaGreatDoorKFnOrder7
import Derived.Test.YtffelpdefjkeaaaGreatDoorKFnOrder6
import Derived.Test.YtffelpdefjkeaaaGreatDoorKFnOrder5
import Derived.Deep.CutBlock
import Derived.Deep.CutRange
import Derived.Test.YtffelpdefjkeaaaGreatDoorKFnOrder2
import Derived.Deep.RegionHeld3
namespace Go.Proofs.YtffelpdefjkeaaaGreatDoor
open Go.RowKit Go.Lib
set_option maxHeartbeats 4000000 in
set_option maxRecDepth 20000 in
theorem c_l09Braced (code : List UInt8) (p : Nat) (w : World) (h : CurAt code p w) :
    Calls Tryz.prog 53 #[.pointer (some ⟨p, 0, none⟩)] w fun e w' => ∃ s : ByteArray, e = .returned (.string s) ∧ s.size ≤ 20000 ∧ Dr code p w w' := by
  have h4 := all_tree 3 (by decide)
  rw [show ((3 + 1 : Nat) : Int) = 4 from rfl] at h4
  have H4 := Lib.hid h4
  have HL4 := Lib.hid (all_loose 4 (Nat.le_refl _))
  have HA := Lib.hid (show ∀ s ∈ ([⟨#[44]⟩, ⟨#[93]⟩, ⟨#[125]⟩, ⟨#[32, 49]⟩, ⟨#[34]⟩, ⟨#[116, 114, 117]⟩, ⟨#[123, 34, 97, 34, 58, 49, 44, 34, 97, 34, 58, 50, 125]⟩, ⟨#[255]⟩] : List ByteArray), s.size ≤ 20 by decide)
  have HB := Lib.hid (show ∀ s ∈ ([⟨#[]⟩, ⟨#[32]⟩, ⟨#[123, 34, 97, 34, 58, 49, 44, 34, 97, 34, 58, 50, 125]⟩, ⟨#[91, 49, 44, 93]⟩, ⟨#[123, 34, 97, 34, 125]⟩, ⟨#[123, 44, 125]⟩, ⟨#[91, 49, 32, 50, 93]⟩, ⟨#[123, 49, 58, 50, 125]⟩, ⟨#[110, 117, 108]⟩, ⟨#[91, 48, 49, 93]⟩, ⟨#[91, 49, 46, 48, 93]⟩, ⟨#[91, 91, 91, 91, 91, 91, 91, 91, 49, 93, 93, 93, 93, 93, 93, 93, 93]⟩, ⟨#[91, 91, 91, 91, 91, 91, 91, 49, 93, 93, 93, 93, 93, 93, 93]⟩, ⟨#[123, 34, 98, 34, 58, 49, 44, 34, 97, 34, 58, 123, 125, 125]⟩] : List ByteArray), s.size ≤ 20 by decide)
  have hpl := h.lt
  have hlb : looB 4 ≤ 19500 := by decide
  have H := Lib.hid h
  clear h4 h
  go_enter Tryz.func53, Tryz.ntmps53
  go_wp2_with fail
  refine (H4.out code p _ H.out).mono ?_
  rintro e w1 ⟨d, cs, rfl, hD, hO, hd⟩
  have HC := Lib.hid (hO.toC (lo := w.heap.size) (hi := w1.heap.size) (fun b hb => hb))
  have HD := Lib.hid (Loo.mk hD.shape hD.word)
  have H1 := Lib.hid hd
  clear hD hO hd
  go_wp2_with fail
  refine (HL4.out code p d cs _ w.heap.size H1.out.cur HC.out hpl HD.out).mono ?_
  rintro e w2 ⟨s, rfl, hs, hd2⟩
  have hs2 : s.size ≤ 19500 := Nat.le_trans hs hlb
  have H2 := Lib.hid (H1.out.trans hd2)
  clear hs hd2 hlb
  go_wp2_with fail
  refine (c_l01Below code p 8 _ H2.out.cur (by omega)).mono ?_
  rintro e w3 ⟨x, rfl, hx0, hx1, -, hd3⟩
  have H3 := Lib.hid (H2.out.trans hd3)
  clear hx1 hd3
  have hx : x = 0 ∨ x = 1 ∨ x = 2 ∨ 3 ≤ x := by omega
  rcases hx with rfl | rfl | rfl | hx
  · go_wp2_with fail
    refine (c_l04Spoilt code p s _ H3.out.cur (by omega)).mono ?_
    rintro e w4 ⟨t, rfl, ht, hd4⟩
    have H4 := Lib.hid (H3.out.trans hd4)
    clear hd4
    go_wp2_with fail
    go_ret
    exact ⟨t, rfl, by omega, H4.out⟩
  · go_wp2_with fail
    refine (c_l01Pick code p ([⟨#[44]⟩, ⟨#[93]⟩, ⟨#[125]⟩, ⟨#[32, 49]⟩, ⟨#[34]⟩, ⟨#[116, 114, 117]⟩, ⟨#[123, 34, 97, 34, 58, 49, 44, 34, 97, 34, 58, 50, 125]⟩, ⟨#[255]⟩] : List ByteArray) _ w3.heap.size (w3.alloc (.cells #[.string ⟨#[44]⟩, .string ⟨#[93]⟩, .string ⟨#[125]⟩, .string ⟨#[32, 49]⟩, .string ⟨#[34]⟩, .string ⟨#[116, 114, 117]⟩, .string ⟨#[123, 34, 97, 34, 58, 49, 44, 34, 97, 34, 58, 50, 125]⟩, .string ⟨#[255]⟩] 9)) (H3.out.cur.below (ext_alloc (Below.refl _ _))) (sl_lit w3 ([⟨#[44]⟩, ⟨#[93]⟩, ⟨#[125]⟩, ⟨#[32, 49]⟩, ⟨#[34]⟩, ⟨#[116, 114, 117]⟩, ⟨#[123, 34, 97, 34, 58, 49, 44, 34, 97, 34, 58, 50, 125]⟩, ⟨#[255]⟩] : List ByteArray) (fun s hs => Nat.le_trans (HA.out s hs) (by decide)) (by decide) 9 _ rfl) (by have := H3.out.cur.lt; omega) (by decide) (by decide)).mono ?_
    rintro e w4 ⟨t, rfl, ht, hd4⟩
    have ht2 := HA.out t ht
    have H4 := Lib.hid (Dr.trans H3.out hd4.cut)
    clear hd4 ht
    go_wp2_with fail
    go_ret
    exact ⟨_, rfl, by rw [ByteArray.size_append]; omega, H4.out⟩
  · go_wp2_with fail
    refine (c_l01Pick code p ([⟨#[]⟩, ⟨#[32]⟩, ⟨#[123, 34, 97, 34, 58, 49, 44, 34, 97, 34, 58, 50, 125]⟩, ⟨#[91, 49, 44, 93]⟩, ⟨#[123, 34, 97, 34, 125]⟩, ⟨#[123, 44, 125]⟩, ⟨#[91, 49, 32, 50, 93]⟩, ⟨#[123, 49, 58, 50, 125]⟩, ⟨#[110, 117, 108]⟩, ⟨#[91, 48, 49, 93]⟩, ⟨#[91, 49, 46, 48, 93]⟩, ⟨#[91, 91, 91, 91, 91, 91, 91, 91, 49, 93, 93, 93, 93, 93, 93, 93, 93]⟩, ⟨#[91, 91, 91, 91, 91, 91, 91, 49, 93, 93, 93, 93, 93, 93, 93]⟩, ⟨#[123, 34, 98, 34, 58, 49, 44, 34, 97, 34, 58, 123, 125, 125]⟩] : List ByteArray) _ w3.heap.size (w3.alloc (.cells #[.string ⟨#[]⟩, .string ⟨#[32]⟩, .string ⟨#[123, 34, 97, 34, 58, 49, 44, 34, 97, 34, 58, 50, 125]⟩, .string ⟨#[91, 49, 44, 93]⟩, .string ⟨#[123, 34, 97, 34, 125]⟩, .string ⟨#[123, 44, 125]⟩, .string ⟨#[91, 49, 32, 50, 93]⟩, .string ⟨#[123, 49, 58, 50, 125]⟩, .string ⟨#[110, 117, 108]⟩, .string ⟨#[91, 48, 49, 93]⟩, .string ⟨#[91, 49, 46, 48, 93]⟩, .string ⟨#[91, 91, 91, 91, 91, 91, 91, 91, 49, 93, 93, 93, 93, 93, 93, 93, 93]⟩, .string ⟨#[91, 91, 91, 91, 91, 91, 91, 49, 93, 93, 93, 93, 93, 93, 93]⟩, .string ⟨#[123, 34, 98, 34, 58, 49, 44, 34, 97, 34, 58, 123, 125, 125]⟩] 9)) (H3.out.cur.below (ext_alloc (Below.refl _ _))) (sl_lit w3 ([⟨#[]⟩, ⟨#[32]⟩, ⟨#[123, 34, 97, 34, 58, 49, 44, 34, 97, 34, 58, 50, 125]⟩, ⟨#[91, 49, 44, 93]⟩, ⟨#[123, 34, 97, 34, 125]⟩, ⟨#[123, 44, 125]⟩, ⟨#[91, 49, 32, 50, 93]⟩, ⟨#[123, 49, 58, 50, 125]⟩, ⟨#[110, 117, 108]⟩, ⟨#[91, 48, 49, 93]⟩, ⟨#[91, 49, 46, 48, 93]⟩, ⟨#[91, 91, 91, 91, 91, 91, 91, 91, 49, 93, 93, 93, 93, 93, 93, 93, 93]⟩, ⟨#[91, 91, 91, 91, 91, 91, 91, 49, 93, 93, 93, 93, 93, 93, 93]⟩, ⟨#[123, 34, 98, 34, 58, 49, 44, 34, 97, 34, 58, 123, 125, 125]⟩] : List ByteArray) (fun s hs => Nat.le_trans (HB.out s hs) (by decide)) (by decide) 9 _ rfl) (by have := H3.out.cur.lt; omega) (by decide) (by decide)).mono ?_
    rintro e w4 ⟨t, rfl, ht, hd4⟩
    have ht2 := HB.out t ht
    have H4 := Lib.hid (Dr.trans H3.out hd4.cut)
    clear hd4 ht
    go_wp2_with fail
    go_ret
    exact ⟨_, rfl, by omega, H4.out⟩
  · have f0 : (x == 0) = false := beq_eq_false_iff_ne.2 (by omega)
    have f1 : (x == 1) = false := beq_eq_false_iff_ne.2 (by omega)
    have f2 : (x == 2) = false := beq_eq_false_iff_ne.2 (by omega)
    go_wp2_with fail
    go_ret
    exact ⟨_, rfl, by omega, H3.out⟩
set_option maxHeartbeats 8000000 in
set_option maxRecDepth 20000 in
theorem c_DrawBracedSame (code : List UInt8) (v : Value) (lo : Nat) (w : World) (hs : SlOf C_Byte 1 lo w.heap.size w code v) (hn : code.length ≤ 1048576) :
    Calls Tryz.prog 28 #[v] w fun e w' => ∃ s t : ByteArray, e = .returned (.tuple #[.string s, .string t]) ∧ s.size ≤ 20000 ∧ t.size ≤ 20000 ∧ Below w.heap.size w w' := by
  have Hs := Lib.hid hs
  obtain ⟨A, c, rfl, -⟩ := hs
  have h4 := all_tree 3 (by decide)
  rw [show ((3 + 1 : Nat) : Int) = 4 from rfl] at h4
  have H4 := Lib.hid h4
  have HL4 := Lib.hid (all_loose 4 (Nat.le_refl _))
  have hlb : looB 4 ≤ 20000 := by decide
  clear h4
  go_enter Tryz.func28, Tryz.ntmps28
  go_wp2_with fail
  refine (c_l01New code _ lo _ Hs.out hn).mono ?_
  rintro e w1 ⟨p, rfl, hp, hc, hb⟩
  have HB := Lib.hid hb
  have H0 := Lib.hid hc
  have hpl := hc.lt
  have fin : ∀ (x : World), Dr code p w1 x → Below w.heap.size w x := fun x hd => hb.trans (hd.below hb.size hp)
  have Hfin := Lib.hid fin
  clear hb hc fin
  go_wp2_with fail
  refine (H4.out code p _ H0.out).mono ?_
  rintro e w2 ⟨d, cs, rfl, hD, hO, hd⟩
  have HC := Lib.hid (hO.toC (lo := w1.heap.size) (hi := w2.heap.size) (fun b hb => hb))
  obtain ⟨C4, d4, C5, d5, rfl, -⟩ := hO.flat
  have HD := Lib.hid (Loo.mk hD.shape hD.word)
  clear hD hO
  have H2 := Lib.hid hd
  have hz2 := hd.size
  clear hd
  go_wp2_with fail
  obtain ⟨w3, hw3⟩ : ∃ W, W = w2.alloc (.cells #[.int .i64 d.kind, .bool d.flag, .int .i64 d.num, .string d.text, .slice C4 d.keys.length d4, .slice C5 d.kids.length d5] 27) := ⟨_, rfl⟩
  have X3 : Hid (w3.heap[w2.heap.size]? = some (.cells #[.int .i64 d.kind, .bool d.flag, .int .i64 d.num, .string d.text, .slice C4 d.keys.length d4, .slice C5 d.kids.length d5] 27 (0, 0))) := Lib.hid (by rw [hw3]; exact heap_at rfl)
  have B3 : Hid (Below w2.heap.size w2 w3) := Lib.hid (by rw [hw3]; exact bel)
  rw [← hw3]
  clear hw3
  have H3 := Lib.hid (H2.out.step B3.out)
  refine (c_l01Once code p 3 _ H3.out.cur (by omega)).mono ?_
  rintro e w4 ⟨q, rfl, hd4⟩
  have H4 := Lib.hid (H3.out.trans hd4)
  have X4 := Lib.hid ((hd4.block (row_lt X3.out) (by omega)).trans X3.out)
  have HC4 := Lib.hid (fun (W : World) (h : Dr code p w4 W) => (show C_Tree 4 w1.heap.size W.heap.size W d _ from C_Tree.keep (HC.out.now B3.out) (fun b o h1 h2 => (hd4.trans h).cell (g := b) (o := o) h2 (by omega)) (Nat.le_refl _) (hd4.trans h).size))
  clear hd4
  have hzB : w2.heap.size ≠ p := by omega
  cases q
  · have hrow := X4.out
    obtain ⟨z0, z1, z2, z3, z4, z5, zf⟩ := row6 hrow
    have hl := row_lt hrow
    clear hrow
    go_upto_region 5 with fail
    go_cut [2, 3] from 17 to 22 (fun s2 s3 wx => ∃ s t : ByteArray, s2 = .string s ∧ s3 = .string t ∧ s.size ≤ looB 4 ∧ t.size ≤ looB 4 ∧ Dr code p w1 wx)
    case first =>
      go_region_law (first | (go_simp; go_at_call 52; refine (HL4.out code p d _ _ w1.heap.size (H5.out.cur.below bel) (HC4.out _ (H5.out.step bel)) hpl HD.out).mono ?_; rintro e w6 ⟨t, rfl, ht, hd6⟩; have H6p : Dr code p w5 w6 := Dr.pre (Aside.of_below bel) hd6) | (go_simp; go_at_call 52; refine (HL4.out code p d _ _ w1.heap.size (H4.out.cur.below bel) (HC4.out _ ((Dr.refl H4.out.cur).step bel)) hpl HD.out).mono ?_; rintro e w5 ⟨s, rfl, hs, hd5q⟩; have hd5 : Dr code p w4 w5 := Dr.pre (Aside.of_below bel) hd5q; have X5 := (hd5.block hl (by omega)).trans X4.out; have hl5 := row_lt X5; obtain ⟨y0, y1, y2, y3, y4, y5, yf⟩ := row6 X5; have H5 := Lib.hid hd5; clear X5 hd5 hd5q))
      all_goals
        have H6 := Lib.hid (H4.out.trans (H5.out.trans H6p))
        have hss := Lib.hid hs
        have htt := Lib.hid ht
        clear hd6 H6p hs ht
        go_wp2_with fail
        go_meet
        exact ⟨_, _, rfl, rfl, by first | exact hss.out | exact htt.out, by first | exact htt.out | exact hss.out, H6.out⟩
    case rest =>
      obtain ⟨s, t, rfl, rfl, hs, ht, hd⟩ := hcut
      obtain ⟨wx, hwx⟩ : ∃ x, x = wc := ⟨_, rfl⟩
      rw [← hwx] at hd ⊢
      have H6 := Lib.hid hd
      clear hwx hd
      go_wp2_with fail
      refine bodyPost_ret (v := .tuple #[.string s, .string t]) (by simp only [results, Tryz.results28]; go_simp) rfl ⟨s, t, rfl, Nat.le_trans hs hlb, Nat.le_trans ht hlb, Hfin.out _ H6.out⟩
  · have hrow := X4.out
    obtain ⟨z0, z1, z2, z3, z4, z5, zf⟩ := row6 hrow
    have hl := row_lt hrow
    clear hrow
    go_wp2_with fail
    refine (HL4.out code p d _ _ w1.heap.size H4.out.cur (HC4.out w4 (Dr.refl H4.out.cur)) hpl HD.out).mono ?_
    rintro e w5 ⟨s, rfl, hs, hd5⟩
    have H5 := Lib.hid (H4.out.trans hd5)
    clear hd5
    go_wp2_with fail
    refine (c_l09Braced code p _ H5.out.cur).mono ?_
    rintro e w6 ⟨t, rfl, ht, hd6⟩
    have H6 := Lib.hid (H5.out.trans hd6)
    clear hd6
    go_wp2_with fail
    refine bodyPost_ret (v := .tuple #[.string s, .string t]) (by simp only [results, Tryz.results28]; go_simp) rfl ⟨s, t, rfl, Nat.le_trans hs hlb, ht, Hfin.out _ H6.out⟩
end Go.Proofs.YtffelpdefjkeaaaGreatDoor
namespace Go.Proofs.YtffelpdefjkeaaaGreatDoor
open Go.RowKit Go.Lib
theorem bb {a b c : World} (h : Below a.heap.size a b) (k : Below b.heap.size b c) : Below a.heap.size a c := h.trans (k.mono h.size)
structure Four (w : World) : Prop where
  pow : Pow w
  err : ErrR w
  tab : Tabs w
  cas : CTab w
theorem Four.below {w w' : World} (h : Four w) (hb : Below w.heap.size w w') : Four w' := ⟨h.pow.below hb, h.err.below hb, h.tab.below hb, h.cas.below hb⟩
theorem Ten.callN {d : TreeD} (h : Ten d) {w : World} (hC : Four w) (W : World) (hb : Below w.heap.size w W) : Calls Tryz.prog 21 #[.string (⟨#[32]⟩ ++ txt d ++ ⟨#[10]⟩)] W fun e w' => e = .returned (.tuple #[.string (txt d), .agg (fltC flt0)]) ∧ Below W.heap.size W w' := by
  have hC := hC.below hb
  have := c_impl_BracedNormal (⟨#[32]⟩ ++ txt d ++ ⟨#[10]⟩) W (by rw [ByteArray.size_append, ByteArray.size_append, txt_size]; have := h.say; show 1 + _ + 1 ≤ _; omega) hC.pow hC.err hC.tab hC.cas
  rw [h.norm] at this
  exact this
end Go.Proofs.YtffelpdefjkeaaaGreatDoor
namespace Go.Proofs.YtffelpdefjkeaaaGreatDoor
open Go.RowKit Go.Lib
theorem read_ord : readB ⟨#[123, 34, 98, 34, 58, 49, 44, 34, 97, 34, 58, 50, 125]⟩ = readB ⟨#[32, 123, 32, 34, 97, 34, 32, 58, 32, 50, 32, 44, 32, 34, 98, 34, 32, 58, 32, 49, 32, 125, 32]⟩ := by kernel_rfl
theorem read_ord0 : (readB ⟨#[123, 34, 98, 34, 58, 49, 44, 34, 97, 34, 58, 50, 125]⟩).1.code = 0 := by kernel_rfl
theorem same_ord : sameB ⟨#[123, 34, 98, 34, 58, 49, 44, 34, 97, 34, 58, 50, 125]⟩ ⟨#[32, 123, 32, 34, 97, 34, 32, 58, 32, 50, 32, 44, 32, 34, 98, 34, 32, 58, 32, 49, 32, 125, 32]⟩ = true := by
  have h := read_ord0
  have e : brN ⟨#[32, 123, 32, 34, 97, 34, 32, 58, 32, 50, 32, 44, 32, 34, 98, 34, 32, 58, 32, 49, 32, 125, 32]⟩ = brN ⟨#[123, 34, 98, 34, 58, 49, 44, 34, 97, 34, 58, 50, 125]⟩ := by unfold brN; rw [← read_ord]
  rw [sameB_law, e, brN_code, h]
  simp
theorem kind_one : (readB ⟨#[49]⟩).2.num = 1 ∧ (readB ⟨#[50]⟩).2.num = 2 := by constructor <;> kernel_rfl
theorem same_one : sameB ⟨#[49]⟩ ⟨#[50]⟩ = false := by
  have h := kind_one
  unfold sameB
  have e : eqTr 10 (readB ⟨#[49]⟩).2 (readB ⟨#[50]⟩).2 = false := by
    rw [eqTr_succ, h.1, h.2]
    simp
  rw [e]
  simp
structure StrNe (x y : ByteArray) : Prop where
  dec : decide (x = y) = false
  lst : (x.toList == y.toList) = false
theorem StrNe.of {x y : ByteArray} (h : ¬ x = y) : StrNe x y := ⟨decide_eq_false h, by cases e : (x.toList == y.toList); rfl; exact (h (bytes_eq e)).elim⟩
theorem Four.callS {a b : ByteArray} (ha : a.size ≤ 1048576) (hb : b.size ≤ 1048576) {w : World} (hC : Four w) (W : World) (h : Below w.heap.size w W) : Calls Tryz.prog 13 #[.string a, .string b] W fun e w' => e = .returned (.bool (sameB a b)) ∧ Below W.heap.size W w' := by
  have hC := hC.below h
  exact c_impl_BracedSame a b W ha hb hC.cas hC.tab hC.err
theorem Four.callN {a x : ByteArray} {fc fa : Int} {ft : ByteArray} (ha : a.size ≤ 1048576) (e : brN a = (x, ⟨fc, fa, ft⟩)) {w : World} (hC : Four w) (W : World) (h : Below w.heap.size w W) : Calls Tryz.prog 21 #[.string a] W fun e w' => e = .returned (.tuple #[.string x, .agg #[.int .i64 fc, .int .i64 fa, .string ft]]) ∧ Below W.heap.size W w' := by
  have hC := hC.below h
  have := c_impl_BracedNormal a W ha hC.pow hC.err hC.tab hC.cas
  rw [e] at this
  exact this
theorem Four.callQ {C0 : World} (s t : ByteArray) (W : World) (q : Bool) (hs : s.size ≤ 1048576) (ht : t.size ≤ 1048576) (hq : sameB s t = q) (hC : Four C0) (h : Below C0.heap.size C0 W) : Calls Tryz.prog 13 #[.string s, .string t] W fun e w' => e = .returned (.bool q) ∧ Below W.heap.size W w' := by
  rw [← hq]
  exact hC.callS hs ht W h
set_option maxHeartbeats 2000000 in
set_option maxRecDepth 20000 in
theorem w_FnOrder (d0 : List UInt8) (v0 : Value) (w : World) (h0 : R_bytes w d0 v0) (hP : Pow w) (hE : ErrR w) (hT : Tabs w) (hV : CTab w) :
    Calls Tryz.prog 9 #[v0] w fun e w' => e = .returned (.bool true) ∧ Below w.heap.size w w' := by
  have H0 := Lib.hid h0
  obtain ⟨A, c, rfl, -⟩ := h0
  have HC := Lib.hid (Four.mk hP hE hT hV)
  clear hP hE hT hV
  by_cases hq : d0.length ≤ 1048576
  · go_enter Tryz.func9, Tryz.ntmps9
    go_wp2_with (go_at_call 22; refine (c_laws_big_no d0 A c _ hq).mono ?_; rintro e w' ⟨rfl, rfl⟩)
    refine (c_DrawBracedSame d0 _ 0 _ H0.out hq).mono ?_
    rintro e w1 ⟨a, b, rfl, ha, hb, hb1⟩
    have ha2 : a.size ≤ 1048576 := by omega
    have hb2 : b.size ≤ 1048576 := by omega
    obtain ⟨x, fc, fa, ft, hx⟩ : ∃ x fc fa ft, brN a = (x, ⟨fc, fa, ft⟩) := ⟨_, _, _, _, rfl⟩
    obtain ⟨y, gc, ga, gt, hy⟩ : ∃ x fc fa ft, brN b = (x, ⟨fc, fa, ft⟩) := ⟨_, _, _, _, rfl⟩
    have hsame := sameB_law a b
    rw [hx, hy] at hsame
    simp only at hsame
    have HNa := Lib.hid (Four.callN ha2 hx HC.out)
    have HNb := Lib.hid (Four.callN hb2 hy HC.out)
    have HSM := Lib.hid hsame
    have H1 := Lib.hid hb1
    clear hsame hb1 hx hy ha hb
    go_wp2_with fail
    refine (HNa.out w1 H1.out).mono ?_
    rintro e w2 ⟨rfl, hb⟩
    have H2 := Lib.hid (bb H1.out hb)
    clear hb
    go_wp2_with fail
    obtain ⟨w3, hw3⟩ : ∃ W, W = w2.alloc (.cells #[.int .i64 fc, .int .i64 fa, .string ft] 29) := ⟨_, rfl⟩
    have B3 : Hid (Below w2.heap.size w2 w3) := Lib.hid (by rw [hw3]; exact bel)
    have X3 : Hid (w3.heap[w2.heap.size]? = some (.cells #[.int .i64 fc, .int .i64 fa, .string ft] 29 (0, 0))) := Lib.hid (by rw [hw3]; exact heap_at rfl)
    rw [← hw3]
    clear hw3
    have H3 := Lib.hid (bb H2.out B3.out)
    refine (HNb.out w3 H3.out).mono ?_
    rintro e w4 ⟨rfl, hb⟩
    have H4 := Lib.hid (bb H3.out hb)
    have X4 := Lib.hid ((hb.block _ (row_lt X3.out)).trans X3.out)
    clear hb
    go_upto_region 6 with fail
    obtain ⟨w5, hw5⟩ : ∃ W, W = w4.alloc (.cells #[.int .i64 gc, .int .i64 ga, .string gt] 29) := ⟨_, rfl⟩
    have B5 : Hid (Below w4.heap.size w4 w5) := Lib.hid (by rw [hw5]; exact bel)
    have Y5 : Hid (w5.heap[w4.heap.size]? = some (.cells #[.int .i64 gc, .int .i64 ga, .string gt] 29 (0, 0))) := Lib.hid (by rw [hw5]; exact heap_at rfl)
    rw [← hw5]
    clear hw5
    have H5 := Lib.hid (bb H4.out B5.out)
    have X5 := Lib.hid ((B5.out.block _ (row_lt X4.out)).trans X4.out)
    obtain ⟨a0, a1, a2, af⟩ := row3 X5.out
    obtain ⟨b0, b1, b2, bf⟩ := row3 Y5.out
    have la := row_lt X5.out
    have lb := row_lt Y5.out
    have ways : (fc == 0) = false ∨ (fc == 0) = true ∧ (gc == 0) = false ∨ (fc == 0) = true ∧ (gc == 0) = true ∧ x = y ∨ (fc == 0) = true ∧ (gc == 0) = true ∧ ¬ x = y := by
      cases (fc == 0) <;> cases (gc == 0) <;> simp [Classical.em]
    have hv := HSM.out
    rcases ways with hf | ⟨hf, hg⟩ | ⟨hf, hg, rfl⟩ | ⟨hf, hg, hxy⟩
    · rw [hf, Bool.false_and, Bool.false_and] at hv
      clear HSM
      go_wp2_with fail
      first | (go_region_law (first | (go_simp; go_at_call 13; refine (Four.callQ (C0 := w) _ _ _ _ (by first | assumption | decide) (by first | assumption | decide) (by first | exact hv | exact same_ord | exact same_one) HC.out (bb H5.out bel)).mono ?_; rintro e w8 ⟨rfl, hb8⟩; have HB8 : Below w5.heap.size w5 w8 := bb bel hb8; have X8 := (HB8.block _ la).trans X5.out; have Y8 := (HB8.block _ lb).trans Y5.out; have la8 := row_lt X8; have lb8 := row_lt Y8; obtain ⟨p0, p1, p2, pf⟩ := row3 X8; obtain ⟨r0, r1, r2, rf⟩ := row3 Y8; clear hb8 X8 Y8))) | fail "none"
      all_goals
        go_wp2_with fail
        go_ret
        exact ⟨rfl, bb H5.out bel⟩
    · rw [hg, Bool.and_false, Bool.false_and] at hv
      clear HSM
      go_wp2_with fail
      first | (go_region_law (first | (go_simp; go_at_call 13; refine (Four.callQ (C0 := w) _ _ _ _ (by first | assumption | decide) (by first | assumption | decide) (by first | exact hv | exact same_ord | exact same_one) HC.out (bb H5.out bel)).mono ?_; rintro e w8 ⟨rfl, hb8⟩; have HB8 : Below w5.heap.size w5 w8 := bb bel hb8; have X8 := (HB8.block _ la).trans X5.out; have Y8 := (HB8.block _ lb).trans Y5.out; have la8 := row_lt X8; have lb8 := row_lt Y8; obtain ⟨p0, p1, p2, pf⟩ := row3 X8; obtain ⟨r0, r1, r2, rf⟩ := row3 Y8; clear hb8 X8 Y8))) | fail "none"
      all_goals
        go_wp2_with fail
        go_ret
        exact ⟨rfl, bb H5.out bel⟩
    · rw [hf, hg, beq_self_eq_true] at hv
      clear HSM
      go_wp2_with fail
      go_region_held3 (fun w' => Below (w5).heap.size (w5) w' ∧ (∀ xb xo, xb < (w5).heap.size → w'.cell? ⟨xb, xo, none⟩ = (w5).cell? ⟨xb, xo, none⟩)) (first | exact keep_drew _ | exact keep_ext (by assumption) (by assumption) | exact keep_same (by assumption) | exact keep_alloc (by assumption) _) (first | (go_at_call 13; refine (Four.callQ (C0 := w) _ _ _ _ (by first | assumption | decide) (by first | assumption | decide) (by first | exact hv | exact same_ord | exact same_one) HC.out (bb H5.out (by first | (with_reducible exact Below.refl _ _) | exact (keep_same (by assumption)).1))).mono ?_; rintro e w8 ⟨rfl, hb8⟩))
      all_goals
        have hb9 := held_step (by assumption)
        have H9 := Lib.hid (bb H5.out hb9)
        clear hb9
        go_wp2_with fail
        go_ret
        exact ⟨rfl, H9.out⟩
    · obtain ⟨hd0, hl0⟩ := StrNe.of hxy
      rw [hl0, Bool.and_false] at hv
      clear HSM
      go_wp2_with fail
      go_region_held3 (fun w' => Below (w5).heap.size (w5) w' ∧ (∀ xb xo, xb < (w5).heap.size → w'.cell? ⟨xb, xo, none⟩ = (w5).cell? ⟨xb, xo, none⟩)) (first | exact keep_drew _ | exact keep_ext (by assumption) (by assumption) | exact keep_same (by assumption) | exact keep_alloc (by assumption) _) (first | (go_at_call 13; refine (Four.callQ (C0 := w) _ _ _ _ (by first | assumption | decide) (by first | assumption | decide) (by first | exact hv | exact same_ord | exact same_one) HC.out (bb H5.out (by first | (with_reducible exact Below.refl _ _) | exact (keep_same (by assumption)).1))).mono ?_; rintro e w8 ⟨rfl, hb8⟩))
      all_goals
        have hb9 := held_step (by assumption)
        have H9 := Lib.hid (bb H5.out hb9)
        clear hb9
        go_wp2_with fail
        go_ret
        exact ⟨rfl, H9.out⟩
  · go_enter Tryz.func9, Tryz.ntmps9
    go_wp2_with (go_at_call 22; refine (c_laws_big_yes d0 A c _ hq).mono ?_; rintro e w' ⟨rfl, rfl⟩)
    go_ret
    exact ⟨rfl, Below.refl _ _⟩
end Go.Proofs.YtffelpdefjkeaaaGreatDoor
