/- Steps to FnIndented. No conditions. -/
import Derived.Test.YtohcpifekcehjaaGreatDoorKfin16
import Derived.Deep.RegionLaw
import Derived.Shelf.Lays
import Derived.Shelf.Strings.OnBuilder
import Derived.Test.YtohcpifekcehjaaGreatDoorKfin1
import Derived.Test.YtohcpifekcehjaaGreatDoorKfin13
import Derived.Test.YtohcpifekcehjaaGreatDoorKfin7
import Derived.Test.YtohcpifekcehjaaGreatDoorKfin14
import Derived.Test.YtohcpifekcehjaaGreatDoorKfin15
import Derived.Test.YtohcpifekcehjaaGreatDoorKfin9
import Derived.Test.YtohcpifekcehjaaGreatDoorKfin4
import Derived.Test.YtohcpifekcehjaaGreatDoorKfin2
import Derived.Test.YtohcpifekcehjaaGreatDoorKfin8
import Derived.Lib.LazyBuf
import Derived.Test.YtohcpifekcehjaaGreatDoorKfin6
import Derived.Test.YtohcpifekcehjaaGreatDoorKfin3
import Derived.Deep.CutBlock
import Derived.Deep.CutRange
import Derived.Test.YtohcpifekcehjaaGreatDoorKfin11
import Derived.Test.YtohcpifekcehjaaGreatDoorKfin12
set_option maxHeartbeats 16000000
set_option maxRecDepth 20000
namespace Go.Proofs.YtohcpifekcehjaaGreatDoor
open Go.RowKit Go.Lib
def headed (h0 : List UInt8) : List (List UInt8) -> List (List UInt8)
 | [] => []
 | y :: r => (h0 ++ y) :: blank2 r
theorem headed_len (h0 : List UInt8) (L : List (List UInt8)) : (headed h0 L).length = L.length := by
 cases L with
 | nil => rfl
 | cons y r => show (blank2 r).length + 1 = r.length + 1; rw [blank2_len]
theorem headed_next {h0 y : List UInt8} {L : List (List UInt8)} {j : Nat} (h : L[j]? = some y) : (headed h0 L).take (j + 1) = (headed h0 L).take j ++ [(if j = 0 then h0 else [32, 32]) ++ y] := by
 cases L with
 | nil => cases h
 | cons z r =>
  cases j with
  | zero => cases h; rfl
  | succ j =>
   rw [List.getElem?_cons_succ] at h
   show (h0 ++ z) :: (blank2 r).take (j + 1) = ((h0 ++ z) :: (blank2 r).take j) ++ [_]
   rw [if_neg (by omega)]
   unfold blank2
   rw [List.take_add_one, List.getElem?_map, h]
   rfl
def T_wrS (n : Nat) : Prop := ∀ (d : TreeD) (cs : List Value) (w : World) (lo base : Nat), C_Tree n lo base w d cs -> base <= w.heap.size -> shapeT n d = true -> sizeT n d <= 300 -> depthT n d <= 40 ->
  Calls Tryz.prog 84 #[.agg cs.toArray] w fun e w' => ∃ (A : Option Addr) (c : Nat), e = .returned (.slice A (linesT n d).length c) /\ RowS w.heap.size w' (txts (linesT n d)) (linesT n d).length (.slice A (linesT n d).length c) /\ Below w.heap.size w w'
theorem of_wrS (n : Nat) (ih : T_wrS n) : T_wrS (n + 1) := by
 intro d cs w lo base h hbw hsh hsz hn40
 have hlb := lin_ok (n + 1) d hsh (num_of h)
 have HLin := hid (fun (t : TreeD) (ht : t ∈ d.kids) => by
  obtain ⟨i, hi⟩ := List.getElem?_of_mem ht
  exact lin_ok n t (shape_kid hsh hi) ((num_of h).2 t ht))
 have HSh := hid hsh
 have HDp := hid (fun (k : Nat) (t : TreeD) (ht : d.kids[k]? = some t) => show depthT n t <= 39 by have := (depth_kid (n := n) ht).2; omega)
 have HSk := hid (fun (k : Nat) (t : TreeD) (ht : d.kids[k]? = some t) => size_kid (n := n) ht)
 have HKk := hid (fun (hk : d.kids ≠ []) => kind_kids hsh hk)
 by_cases hk : d.kids = []
 ·have hl := linesT_leaf (n := n) hk
  have HSc := hid (fun (W : World) (hb : Below w.heap.size w W) => c_spec_ScalarText n d cs W lo ((h.old (hb.mono hbw)).keep (same_below (Below.refl _ _)) (Nat.le_refl _) (Nat.le_trans hbw hb.size)) hk hsh)
  rw [hl]
  obtain ⟨A4, c4, A5, c5, rfl⟩ := C_Tree.open h
  obtain ⟨s, hs⟩ : ∃ s, s = scalText d := ⟨_, rfl⟩
  rw [<- hs] at HSc ⊢
  have HX := hid (show txts [s.data.toList] = [s] by unfold txts; rw [List.map_cons, bs_self]; rfl)
  obtain ⟨kn, hkn⟩ : ∃ kn, kn = d.kids.length := ⟨_, rfl⟩
  rw [<- hkn] at HSc ⊢
  have hkn0 : kn = 0 := by rw [hkn, hk]; rfl
  subst hkn0
  clear h hlb hk hl hs hkn HLin HKk HSk hsh HDp
  go_enter Tryz.func84, Tryz.ntmps84
  go_wp2_with fail
  refine (HSc.out _ bel).mono ?_
  rintro e w1 ⟨rfl, hb1⟩
  have hB1 : Below w.heap.size w w1 := Below.trans bel (hb1.mono (by simp; omega))
  have HE1 := hid ((RowS.empty (w := w.alloc (.cells #[.int .i64 d.kind, .bool d.flag, .int .i64 d.num, .string d.text, .slice A4 d.keys.length c4, .slice A5 0 c5] 34)) (base := w.heap.size) (B := w.heap.size + 1) (by simp) (by simp; try omega)).below hb1)
  obtain ⟨A1, c1, w2, hr2, h2, g2⟩ := rowS_push w1 w.heap.size 0 0 _ _ s HE1.out (by decide) hB1.size
  have H2 := hid (And.intro h2 (hB1.trans (g2.below HE1.out.2 hB1.size)))
  clear hb1 hB1 h2 g2
  go_wp2_with (at_builtin; refine wpList_append_of rfl (.tmp 20) (.tmp 22) 31 rfl _ _ _ w2 rfl rfl hr2 ?_)
  go_ret
  exact ⟨A1, c1, rfl, by rw [HX.out]; exact H2.out.1, H2.out.2⟩
 have hl := linesT_kids (n := n) hk
 have hmore := hlb.more hk
 have hkd := HKk.out hk
 obtain ⟨LL, hLL⟩ : ∃ LL, LL = linesT (n + 1) d := ⟨_, rfl⟩
 rw [<- hLL] at hl hmore ⊢
 have HL := hid hl
 have HMore := hid (show LL.length <= 299 by omega)
 have HPre := hid (fun (k : Nat) (hk : k <= d.kids.length) => (many_lin (g := kidLines (linesT n) d) (f := sizeT n) (l := d.kids) (m := 4806 + 2 * depthT (n + 1) d) k hk (fun i t _ ht => (kid_lin hsh ht (HLin.out t (List.mem_of_getElem? ht))).2)).1)
 have HDk := hid (fun (k : Nat) => Nat.le_trans (szL_take_le (sizeT n) d.kids k) (show szL (sizeT n) d.kids <= 299 by rw [sizeT_succ] at hsz; omega))
 obtain ⟨v4, v5, rfl, a0, a2, a3, a4, a5⟩ := C_Tree.out h
 obtain ⟨A4, c4, rfl, hlk, hck, hK⟩ := a4
 obtain ⟨A5, c5, rfl, hlc, hcc, hA⟩ := a5
 clear h hlb hl hmore hLL hsh
 obtain ⟨dk, df, dn, dt, dks, dkd⟩ := d
 simp only at a0 a2 a3 hlk hK hlc hA HSk HKk HLin HL HPre HDk HDp hkd hk ⊢
 have hpos : 0 < dkd.length := List.length_pos_iff.2 hk
 have d0 : ((dkd.length : Int) == 0) = false := beq_eq_false_iff_ne.2 (by omega)
 have d0' : (dkd.length == 0) = false := beq_eq_false_iff_ne.2 (by omega)
 have d0i : dkd.isEmpty = false := by cases dkd with | nil => exact absurd rfl hk | cons _ _ => rfl
 obtain ⟨g, hg⟩ : ∃ g, g = kidLines (linesT n) ⟨dk, df, dn, dt, dks, dkd⟩ := ⟨_, rfl⟩
 rw [<- hg] at HL HPre
 have HG := hid hg
 obtain ⟨W0, hW0⟩ : ∃ W, W = w.alloc (.cells #[.int .i64 dk, .bool df, .int .i64 dn, .string dt, .slice A4 dks.length c4, .slice A5 dkd.length c5] 34) := ⟨_, rfl⟩
 have hB0 : Below w.heap.size w W0 := by rw [hW0]; exact bel
 have HR0 := hid (show W0.heap[w.heap.size]? = some (.cells #[.int .i64 dk, .bool df, .int .i64 dn, .string dt, .slice A4 dks.length c4, .slice A5 dkd.length c5] 34 (0, 0)) by rw [hW0]; exact heap_at rfl)
 have HW0 := hid hW0
 have hz0 : w.heap.size + 1 = W0.heap.size := by rw [hW0]; simp
 have HB0 := hid hB0
 clear hW0 hB0 hk hg
 go_enter Tryz.func84, Tryz.ntmps84
 go_upto_region 5 with fail
 rw [<- HW0.out]
 go_wp2_with fail
 go_loopw [3, 6] (fun s3 v wr => ∃ (k N : Nat) (A : Option Addr) (c : Nat), k <= dkd.length /\ v = .int .i64 k /\ s3 = .slice A N c /\ RowS W0.heap.size wr (txts (manyL g k)) N (.slice A N c) /\ Below W0.heap.size W0 wr) (fun _ v _ => dkd.length - (Lib.intOf v).toNat)
 case atStart => exact ⟨0, 0, _, _, Nat.zero_le _, rfl, rfl, RowS.empty rfl (Nat.le_refl _), bel⟩
 case round =>
  obtain ⟨k, N, A, c, hk, rfl, rfl, hrow, hbr⟩ := hrel
  have HRow := hid hrow
  have HBr := hid hbr
  have HT := hid ((hbr.block _ (row_lt HR0.out)).trans HR0.out)
  have hNz : N <= 299 := by rw [hrow.1, txts_len]; exact Nat.le_trans (HPre.out k hk) (HDk.out k)
  have hbwr : Below w.heap.size w wr := HB0.out.trans (hbr.mono (by omega))
  have hsr := hbr.size
  obtain ⟨x0, x1, x2, x3, x4, x5, xf⟩ := row6 HT.out
  have l1 := row_lt HT.out
  by_cases hlt : k < dkd.length
  rotate_left
  ·obtain rfl : k = dkd.length := by omega
   have hke : decide (dkd.length < dkd.length) = false := decide_eq_false (Nat.lt_irrefl _)
   have HLn := hid (show N = LL.length by rw [hrow.1, txts_len, HL.out])
   have HBw := hid hbwr
   clear hrow hbr hA hK hbwr
   go_wp2_with fail
   go_ret
   rw [<- HLn.out, HL.out]
   exact ⟨A, c, rfl, HRow.out.less (by omega), HBw.out⟩
  obtain ⟨p, o, rfl, -, hbl, hcell⟩ := hA hpos
  obtain ⟨t, ht⟩ := exists_at hlt
  obtain ⟨es, -, hcs, hC⟩ := hcell k t ht
  obtain ⟨eA4, ec4, eA5, ec5, rfl, ea0, ea2, ea3⟩ := hC.flat
  have hbrb : Below base w wr := hbwr.mono hbw
  have hc0 := (hbrb.cell (p := ⟨p, o + k * 6 + 0, none⟩) (by simp; omega)).trans (hcs 0 (by omega))
  simp at hc0
  have hc1 := (hbrb.cell (p := ⟨p, o + k * 6 + 1, none⟩) (by simp; omega)).trans (hcs 1 (by omega))
  simp at hc1
  have hc2 := (hbrb.cell (p := ⟨p, o + k * 6 + 2, none⟩) (by simp; omega)).trans (hcs 2 (by omega))
  simp at hc2
  have hc3 := (hbrb.cell (p := ⟨p, o + k * 6 + 3, none⟩) (by simp; omega)).trans (hcs 3 (by omega))
  simp at hc3
  have hc4 := (hbrb.cell (p := ⟨p, o + k * 6 + 4, none⟩) (by simp; omega)).trans (hcs 4 (by omega))
  simp at hc4
  have hc5 := (hbrb.cell (p := ⟨p, o + k * 6 + 5, none⟩) (by simp; omega)).trans (hcs 5 (by omega))
  simp at hc5
  have hbr1 : p < wr.heap.size := by omega
  have hk0 : (0 : Int) <= k := by omega
  have hk1 : (k : Int) < dkd.length := by omega
  have hltb : decide (k < dkd.length) = true := decide_eq_true hlt
  have HC := hid hC
  have HLt := hid (HLin.out t (List.mem_of_getElem? ht))
  have HSt := hid (shape_kid HSh.out ht)
  have hszt : sizeT n t <= 300 := by have := HSk.out k t ht; omega
  have hdt := HDp.out k t ht
  have HTk := hid ht
  have HBw := hid hbwr
  clear hcs hcell hA hC ht hrow hbr hbwr hbrb
  have HIh := hid (ih t _ wr lo base (HC.out.old (HBw.out.mono hbw)) (by have := HBw.out.size; omega) HSt.out hszt (by omega))
  have HC5 := hid hc5
  go_wp2_with fail
  refine HIh.out.mono ?_
  rintro e w9 ⟨A9, c9, rfl, h9, hb9⟩
  clear x0 x1 x2 x3 x4 x5 xf hc0 hc1 hc2 hc3 hc4 hc5
  obtain ⟨x, r, hxr⟩ := HLt.out.hd
  have hlen9 := HLt.out.many
  have hlong := HLt.out.long
  have hleaf := HLt.out.leaf
  rw [hxr] at h9 hlen9 hlong hleaf
  simp only [List.length_cons] at h9 hlen9
  obtain ⟨q, rfl, hq1, hq2, hq3, hq4⟩ := h9.open (Nat.succ_pos _)
  have hx0 : w9.cell? ⟨q, 0, none⟩ = some (.string (bs x)) := hq4 0 (bs x) rfl
  have hsx : (bs x).size <= 4900 := by have := hlong x (by simp); rw [show (bs x).size = x.length from size_mk _]; omega
  have HQ4 := hid hq4
  have HLong := hid hlong
  have HLeaf := hid hleaf
  have HXR := hid hxr
  have HR9 := hid (HRow.out.below hb9)
  have HT9 := hid ((hb9.block _ l1).trans HT.out)
  have hc95 := (hb9.cell (p := ⟨p, o + k * 6 + 5, none⟩) hbr1).trans HC5.out
  have HB9 := hid (HBw.out.trans (hb9.mono HBw.out.size))
  have HB09 := hid (HBr.out.trans (hb9.mono HBr.out.size))
  have hs9 := hb9.size
  have hoq : ∀ z, (Value.slice A N c).ownBlock = some z -> W0.heap.size <= z /\ z < wr.heap.size := fun z hz => HRow.out.lt hz
  have HOq := hid hoq
  have hr1 : r.length <= 299 := by omega
  have hc91 : r.length + 1 <= c9 := hq3
  rw [hxr]
  simp only [List.length_cons]
  have hp9 : p < w9.heap.size := by omega
  clear h9 hb9 hq4 hlong hleaf hoq hxr
  obtain ⟨x0, x1, x2, x3, x4, x5, xf⟩ := row6 HT9.out
  have lt9 := row_lt HT9.out
  have hb9 := HB9.out
  have hW9 : W0.heap.size <= w9.heap.size := by omega
  have hqo : (Value.slice A N c).ownBlock ≠ some q := fun e => by have := (HOq.out q e).2; omega
  go_upto_if 39 with fail
  go_cut [3, 8] from 40 to 71 (fun s3 s8 wx => ∃ (A1 : Option Addr) (c1 N1 : Nat) (h0 : List UInt8) (pre : List (List UInt8)), s3 = .slice A1 N1 c1 /\ s8 = .string (bs h0) /\ h0.length <= 2 /\ N1 <= 300 /\ g k = pre ++ headed h0 (x :: r) /\ RowS W0.heap.size wx (txts (manyL g k ++ pre)) N1 (.slice A1 N1 c1) /\ Grb w9 (.slice A N c) wx (.slice A1 N1 c1))
  case first =>
   rcases hkd with rfl | ⟨rfl, hkl⟩
   ·have HKi := hid (show g k = [] ++ headed [45, 32] (x :: r) by rw [HG.out]; exact kid_item (show (5 : Int) ≠ 6 by decide) HTk.out HXR.out)
    go_wp2_with fail
    go_meet
    exact ⟨A, c, N, [45, 32], [], rfl, rfl, Nat.le_refl _, by omega, HKi.out, by rw [List.append_nil]; exact HR9.out, Grb.of _ (Below.refl _ _)⟩
   ·obtain ⟨qk, oq, rfl, -, hql, hqc⟩ := hK (by omega)
    obtain ⟨ks, hks⟩ := exists_at (show k < dks.length by omega)
    obtain ⟨es, -, hcs, rfl, hss⟩ := hqc k ks hks
    have hkc := (hb9.cell (p := ⟨qk, oq + k * 1 + 0, none⟩) (by simp; omega)).trans (hcs 0 (by omega))
    simp at hkc
    have hqw : qk < w9.heap.size := by omega
    have hk2 : (k : Int) < dks.length := by have := (List.getElem?_eq_some_iff.1 hks).1; omega
    have hs4 := shape_key HSh.out hks
    clear hkl
    have hkb := key_big hs4
    have HKs := hid hks
    have HKT := hid (fun (W : World) (hb : Below w9.heap.size w9 W) => c_spec_KeyText ks W (by omega))
    obtain ⟨kt, hkt⟩ : ∃ kt, kt = keyText ks := ⟨_, rfl⟩
    rw [<- hkt] at HKT hkb
    have HKt := hid hkt
    obtain ⟨i0, hi, hz0', hz1, hz2⟩ := info_parts (show (Tryz.prog.info? 9).map (fun i => (i.zero, i.size, i.bytes)) = some (some (.string ⟨#[]⟩), 1, 16) from by kernel_rfl)
    have HI0 := hid hi
    clear hcs hqc hks hkt hi hK
    by_cases htk : t.kids = []
    ·have e0 : ((t.kids.length : Int) == 0) = true := by rw [htk]; rfl
     have e0' : (t.kids.length == 0) = true := by rw [htk]; rfl
     have hxl := HLeaf.out htk x (by simp)
     have hsx2 : (bs x).size <= 2402 := by rw [show (bs x).size = x.length from size_mk _]; exact hxl
     have HKi := hid (show g k = [(keyText ks).data.toList ++ [58, 32] ++ x] by rw [HG.out]; exact (kid_one rfl HTk.out HKs.out htk).trans (by rw [HXR.out]; rfl))
     have hsm1 : (kt ++ (⟨#[58, 32]⟩ : ByteArray)).size <= 2404 := by rw [ByteArray.size_append]; show kt.size + 2 <= 2404; omega
     have hsm2 : ¬ 9223372036854775807 < kt.size + 2 := by omega
     have hsm3 : ¬ 9223372036854775807 < kt.size + 2 + (bs x).size := by omega
     have hsm4 : (kt ++ (⟨#[58, 32]⟩ : ByteArray) ++ bs x).size <= 5000 := by rw [ByteArray.size_append]; omega
     have HCat := hid (show kt ++ (⟨#[58, 32]⟩ : ByteArray) ++ bs x = bs ((keyText ks).data.toList ++ [58, 32] ++ x) by rw [bs_cat, bs_cat, bs_self, HKt.out]; rfl)
     clear htk hxl
     go_upto_region 13 with fail
     go_cut [3] from 40 to 71 (fun s3 wx => ∃ (g2 cap2 : Nat), s3 = .slice (some ⟨g2, 0, none⟩) (N + 1) cap2 /\ RowS W0.heap.size wx (txts (manyL g (k + 1))) (N + 1) (.slice (some ⟨g2, 0, none⟩) (N + 1) cap2) /\ Grb w9 (.slice A N c) wx (.slice (some ⟨g2, 0, none⟩) (N + 1) cap2))
     case first =>
      go_region_law (first | (refine step_append_lies _ rfl _ _ 31 rfl W0.heap.size 9 i0 (.string ⟨#[]⟩) 1 16 Tryz.underlying31 HI0.out hz0' hz1 hz2 rfl (by decide) _ N ((txts (manyL g k)).map Value.string) rfl ((HR9.out.below hb4).below (bel : Below w4.heap.size w4 _)).2 ⟨w4.heap.size, 0, none⟩ 1 1 [.string (kt ++ (⟨#[58, 32]⟩ : ByteArray) ++ bs x)] rfl rfl (World.news_of_block (heap_alloc_new w4 _)) (fun u hu => by rcases List.mem_singleton.1 hu with rfl; rfl) (by decide) (by unfold maxLen; omega) (by omega) (by simp; omega) _ rfl ?_; intro g2 cap2 w2 hown2 hgrow2 hat2 hlt2) | (go_simp; go_at_call 159; refine (HKT.out _ bel).mono ?_; rintro e4 w4 ⟨rfl, hb4d⟩; have hb4 : Below w9.heap.size w9 w4 := bel; have hx4 := (hb4.cell (p := ⟨q, 0, none⟩) hq2).trans hx0; have hs4b := hb4.size))
      all_goals
       have hg3 : Grb (w4.alloc (.cells #[.string (kt ++ (⟨#[58, 32]⟩ : ByteArray) ++ bs x)] 9)) (.slice A N c) w2 (.slice (some ⟨g2, 0, none⟩) (N + 1) cap2) := Grb.of_at hgrow2 (hat2.elim (fun h => .inl h.symm) (fun h => .inr (congrArg some h)))
       have hg2 := ((Grb.of (.slice A N c) hb4).trans (Grb.of _ (bel : Below w4.heap.size w4 (w4.alloc (.cells #[.string (kt ++ (⟨#[58, 32]⟩ : ByteArray) ++ bs x)] 9))))).trans hg3
       have HRw2 := hid (show RowS W0.heap.size w2 (txts (manyL g (k + 1))) (N + 1) _ by rw [manyL_next, HKi.out]; exact rowS_of HR9.out.1 HCat.out hown2)
       (try go_wp2_with fail)
       go_meet
       exact ⟨g2, cap2, rfl, HRw2.out, hg2⟩
     case rest =>
      obtain ⟨g2, cap2, rfl, hrw2, hg2⟩ := hcut
      have HRw2 := hid hrw2
      have HBw2 := hid (HB09.out.trans ((hg2.below HR9.out.2 hW9).mono (Nat.le_refl _)))
      clear hrw2 hg2 x0 x1 x2 x3 x4 x5 xf hx0 hkc hb9 e0 e0' hc95 hsm1 hsm2 hsm3 hsm4
      go_wp2_with fail
      go_roundw
      case rel => exact ⟨k + 1, N + 1, _, _, by omega, by go_num, rfl, HRw2.out, HBw2.out⟩
      case measure => simp [Lib.intOf]; omega
    ·have e0 : ((t.kids.length : Int) == 0) = false := beq_eq_false_iff_ne.2 (by have := List.length_pos_iff.2 htk; omega)
     have e0' : (t.kids.length == 0) = false := beq_eq_false_iff_ne.2 (by have := List.length_pos_iff.2 htk; omega)
     have HKi := hid (show g k = [(keyText ks).data.toList ++ [58]] ++ headed [32, 32] (x :: r) by rw [HG.out]; exact (kid_more rfl HTk.out HKs.out htk).trans (by rw [HXR.out]; rfl))
     have hsm1 : (kt ++ (⟨#[58]⟩ : ByteArray)).size <= 2403 := by rw [ByteArray.size_append]; show kt.size + 1 <= 2403; omega
     have hsm2 : ¬ 9223372036854775807 < kt.size + 1 := by omega
     have HCat := hid (show kt ++ (⟨#[58]⟩ : ByteArray) = bs ((keyText ks).data.toList ++ [58]) by rw [bs_cat, bs_self, HKt.out]; rfl)
     clear htk
     go_wp2_with fail
     refine (HKT.out w9 (Below.refl _ _)).mono ?_
     rintro e w4 ⟨rfl, hb4⟩
     have hs4b := hb4.size
     obtain ⟨A1, c1, w10, hr10, h10, g10⟩ := rowS_push w4 W0.heap.size N c A _ (kt ++ (⟨#[58]⟩ : ByteArray)) (HR9.out.below hb4) (by omega) (by omega)
     rw [HCat.out] at h10
     have HRw2 := hid (show RowS W0.heap.size w10 (txts (manyL g k ++ [(keyText ks).data.toList ++ [58]])) (N + 1) (.slice A1 (N + 1) c1) by rw [txts_app]; exact h10)
     have HG2 := hid ((Grb.of (.slice A N c) hb4).trans g10)
     clear h10 g10 hb4
     go_wp2_with (at_builtin; refine wpList_append_of rfl (.tmp 62) (.tmp 70) 31 rfl _ _ _ w10 rfl rfl hr10 ?_)
     go_meet
     exact ⟨A1, c1, N + 1, [32, 32], _, rfl, rfl, Nat.le_refl _, by omega, HKi.out, HRw2.out, HG2.out⟩
  case rest =>
   obtain ⟨A1, c1, N1, h0, pre, rfl, rfl, hh0, hN1, hgk, hrow1, hg1⟩ := hcut
   have HR1 := hid hrow1
   have HG1 := hid hg1
   have HGk := hid hgk
   obtain ⟨M, hM⟩ : ∃ M, M = r.length + 1 := ⟨_, rfl⟩
   have HM := hid (show (x :: r).length = M from hM.symm)
   have hM3 : M <= 300 := by omega
   have hMc : M <= c9 := by omega
   rw [<- hM]
   clear hrow1 hg1 hgk hM x0 x1 x2 x3 x4 x5 xf hx0 hc95 hc91
   go_wp2_with fail
   go_loopw [3, 8, 9] (fun s3 s8 v wx => ∃ (j N2 : Nat) (A2 : Option Addr) (c2 : Nat), j <= M /\ v = .int .i64 j /\ s3 = .slice A2 N2 c2 /\ s8 = .string (bs (if j = 0 then h0 else [32, 32])) /\ N2 = N1 + j /\ RowS W0.heap.size wx (txts (manyL g k ++ (pre ++ (headed h0 (x :: r)).take j))) N2 (.slice A2 N2 c2) /\ Grb w9 (.slice A N c) wx (.slice A2 N2 c2)) (fun _ _ v _ => M - (Lib.intOf v).toNat)
   case atStart => exact ⟨0, N1, A1, c1, Nat.zero_le _, rfl, rfl, by rw [if_pos rfl], rfl, by rw [List.take_zero, List.append_nil]; exact HR1.out, HG1.out⟩
   case round =>
    obtain ⟨j, N2, A2, c2, hj, rfl, rfl, rfl, hN2, hrw, hgr⟩ := hrel
    have HRw := hid hrw
    have HGr := hid hgr
    have hsz2 := hgr.grown.size
    have hWr : W0.heap.size <= wr.heap.size := by omega
    have HN2 := hid hN2
    have hN2b : N2 <= 700 := by omega
    obtain ⟨hd, hhd⟩ : ∃ hd, hd = (if j = 0 then h0 else [32, 32]) := ⟨_, rfl⟩
    rw [<- hhd]
    have HHd := hid hhd
    have hhl : hd.length <= 2 := by rw [hhd]; split; exact hh0; exact Nat.le_refl _
    clear hrw hgr hN2 hhd
    by_cases hlt2 : j < M
    ·obtain ⟨y, hy⟩ := exists_at (show j < (x :: r).length by have := HM.out; omega)
     have hyl := HLong.out y (List.mem_of_getElem? hy)
     have hcy := HQ4.out j (bs y) (txts_get hy)
     have hcy2 := (cell_block (o := j) (HGr.out.keep hq2 hqo)).trans hcy
     have hj0 : (0 : Int) <= j := by omega
     have hj1 : (j : Int) < M := by omega
     have hltb2 : decide (j < M) = true := decide_eq_true hlt2
     have hqw : q < wr.heap.size := by omega
     have hbz : (bs y).size <= 4900 := by rw [show (bs y).size = y.length from size_mk _]; omega
     have hbh : (bs hd).size <= 2 := by rw [show (bs hd).size = hd.length from size_mk _]; exact hhl
     have hsum : (bs hd ++ bs y).size <= 5000 := by rw [ByteArray.size_append]; omega
     obtain ⟨A3, c3, w3, hr3, h3, g3⟩ := rowS_push wr W0.heap.size N2 c2 A2 _ (bs hd ++ bs y) HRw.out (by omega) hWr
     have H3 := hid (show RowS W0.heap.size w3 (txts (manyL g k ++ (pre ++ (headed h0 (x :: r)).take (j + 1)))) (N2 + 1) (.slice A3 (N2 + 1) c3) by
      have e : manyL g k ++ (pre ++ (headed h0 (x :: r)).take (j + 1)) = (manyL g k ++ (pre ++ (headed h0 (x :: r)).take j)) ++ [hd ++ y] := by rw [headed_next hy, HHd.out]; simp
      rw [e, txts_app]
      rw [<- bs_cat] at h3
      exact h3)
     have HG3 := hid (HGr.out.trans g3)
     clear h3 g3 hcy hy
     go_wp2_with (at_builtin; refine wpList_append_of rfl (.tmp 78) (.tmp 85) 31 rfl _ _ _ w3 rfl rfl hr3 ?_)
     go_roundw
     case rel => exact ⟨j + 1, N2 + 1, A3, c3, by omega, by go_num, rfl, by rw [if_neg (by omega)]; rfl, by have := HN2.out; omega, H3.out, HG3.out⟩
     case measure => simp [Lib.intOf]; omega
    ·obtain rfl : j = M := by omega
     have hke : decide (j < j) = false := decide_eq_false (Nat.lt_irrefl _)
     have HRf := hid (show RowS W0.heap.size wr (txts (manyL g (k + 1))) N2 (.slice A2 N2 c2) by
      have h1 := HRw.out
      rw [List.take_of_length_le (by rw [headed_len, HM.out]; exact Nat.le_refl _), <- HGk.out] at h1
      exact h1)
     have HBf := hid (HB09.out.trans ((HGr.out.below HR9.out.2 hW9).mono (Nat.le_refl _)))
     go_wp2_with fail
     go_roundw
     case rel => exact ⟨k + 1, N2, A2, c2, by omega, by go_num, rfl, HRf.out, HBf.out⟩
     case measure => simp [Lib.intOf]; omega
theorem all_wrS : ∀ n, T_wrS n
 | 0 => fun _ _ _ _ _ h _ _ _ _ => (C_Tree.none h).elim
 | n + 1 => of_wrS n (all_wrS n)
open Go.Shelf
def laysJoin_ren : Go.Shelf.Ren := ⟨fun | 156 => 82 | 165 => 153 | 166 => 154 | 169 => 155 | 240 => 216 | 241 => 217 | 276 => 253 | 277 => 254 | n => n, fun | 31 => 31 | 9 => 9 | 3 => 3 | 4 => 4 | 0 => 0 | 20 => 20 | 72 => 139 | 76 => 142 | 70 => 137 | 37 => 28 | 75 => 141 | 127 => 175 | 164 => 198 | 5 => 5 | 80 => 144 | n => n, fun | n => n⟩
theorem laysJoin : Go.Proofs.Lays.n156 Tryz.prog laysJoin_ren := {
 mixed := by kernel_rfl
 f156 := Tryz.func82.trans (congrArg some (by kernel_rfl))
 f165 := Tryz.func153.trans (congrArg some (by kernel_rfl))
 f166 := Tryz.func154.trans (congrArg some (by kernel_rfl))
 f169 := Tryz.func155.trans (congrArg some (by kernel_rfl))
 f240 := Tryz.func216.trans (congrArg some (by kernel_rfl))
 f241 := Tryz.func217.trans (congrArg some (by kernel_rfl))
 f276 := Tryz.func253.trans (congrArg some (by kernel_rfl))
 f277 := Tryz.func254.trans (congrArg some (by kernel_rfl))
 t0 := Tryz.underlying0
 a0 := Tryz.isAgg0
 z0 := Tryz.sizeOf0
 v0 := Tryz.zeroValue0
 t3 := Tryz.underlying3
 a3 := Tryz.isAgg3
 z3 := Tryz.sizeOf3
 v3 := Tryz.zeroValue3
 t4 := Tryz.underlying4
 a4 := Tryz.isAgg4
 z4 := Tryz.sizeOf4
 v4 := Tryz.zeroValue4
 t9 := Tryz.underlying9
 a9 := Tryz.isAgg9
 z9 := Tryz.sizeOf9
 v9 := Tryz.zeroValue9
 t20 := Tryz.underlying20
 a20 := Tryz.isAgg20
 z20 := Tryz.sizeOf20
 v20 := Tryz.zeroValue20
 t31 := Tryz.underlying31
 a31 := Tryz.isAgg31
 z31 := Tryz.sizeOf31
 v31 := Tryz.zeroValue31
 t37 := Tryz.underlying28
 a37 := Tryz.isAgg28
 z37 := Tryz.sizeOf28
 v37 := Tryz.zeroValue28
 t70 := Tryz.underlying137
 a70 := Tryz.isAgg137
 z70 := Tryz.sizeOf137
 v70 := Tryz.zeroValue137
 t72 := Tryz.underlying139
 a72 := Tryz.isAgg139
 z72 := Tryz.sizeOf139
 v72 := Tryz.zeroValue139
 t75 := Tryz.underlying141
 a75 := Tryz.isAgg141
 z75 := Tryz.sizeOf141
 v75 := Tryz.zeroValue141
 t76 := Tryz.underlying142
 a76 := Tryz.isAgg142
 z76 := Tryz.sizeOf142
 v76 := Tryz.zeroValue142
 t127 := Tryz.underlying175
 a127 := Tryz.isAgg175
 z127 := Tryz.sizeOf175
 v127 := Tryz.zeroValue175
 t164 := Tryz.underlying198
 a164 := Tryz.isAgg198
 z164 := Tryz.sizeOf198
 v164 := Tryz.zeroValue198 }
def linesX (n : Nat) (d : TreeD) : List (List UInt8) := if okT n d = true then linesT n d else []
theorem textL_len {m : Nat} : ∀ (L : List (List UInt8)), (∀ x ∈ L, x.length <= m) -> (textL L).length <= (m + 1) * L.length
 | [], _ => Nat.zero_le _
 | x :: L, h => by
  have h1 := textL_len L (fun y hy => h y (by simp [hy]))
  have h2 := h x (by simp)
  have e : textL (x :: L) = x ++ [10] ++ textL L := by unfold textL; simp
  rw [e]
  simp only [List.length_append, List.length_cons, List.length_nil, Nat.mul_add]
  omega
theorem okT_dep {n : Nat} {d : TreeD} (h : okT n d = true) : depthT n d <= 8 := by
 unfold okT at h
 simp only [Bool.and_eq_true] at h
 exact of_decide_eq_true h.1.1
theorem txts_list (L : List (List UInt8)) : (txts L).map (·.data.toList) = L := by
 unfold txts
 rw [List.map_map]
 exact (List.map_congr_left (fun x _ => (show (bs x).data.toList = x by unfold bs; simp))).trans (List.map_id _)
theorem join_text : ∀ (x : List UInt8) (r : List (List UInt8)), Lib.join (x :: r) [10] ++ [10] = textL (x :: r) := by
 intro x r
 rw [Lib.join_cons]
 have h : ∀ r : List (List UInt8), Lib.joinTail [10] r ++ [10] = [10] ++ textL r := by
  intro r
  induction r with
  | nil => rfl
  | cons y r ih =>
   have e1 : Lib.joinTail [10] (y :: r) = [10] ++ y ++ Lib.joinTail [10] r := by unfold Lib.joinTail; simp
   have e2 : textL (y :: r) = y ++ [10] ++ textL r := by unfold textL; simp
   rw [e1, e2, List.append_assoc, ih]
   simp
 have e2 : textL (x :: r) = x ++ [10] ++ textL r := by unfold textL; simp
 rw [e2, List.append_assoc, h r, List.append_assoc]
theorem joinX : Builder.Extra Tryz.prog laysJoin_ren where
 sizeBuilder := by kernel_rfl
 liesBuilder := by kernel_rfl
 t5 := Tryz.underlying5
 a5 := Tryz.isAgg5
 z5 := Tryz.sizeOf5
 v5 := Tryz.zeroValue5
 infoByte := by kernel_rfl
 cellsByte := by kernel_rfl
 sizeByte := by kernel_rfl
 neB5 := by decide
theorem c_impl_IndentedLines (n : Nat) (d : TreeD) (cs : List Value) (w : World) (lo : Nat) (h : C_Tree n lo w.heap.size w d cs) (hz : sizeT n d <= 1073741824) (hT : Tabs w) (hP : Pow w) :
  Calls Tryz.prog 42 #[.agg cs.toArray] w fun e w' => ∃ (A : Option Addr) (c : Nat), e = .returned (.slice A (linesX n d).length c) /\ RowS w.heap.size w' (txts (linesX n d)) (linesX n d).length (.slice A (linesX n d).length c) /\ Below w.heap.size w w' := by
 have HK := hid (fun (W : World) (hb : Below w.heap.size w W) => c_impl_TreeOk n d cs W lo (h.now hb) hz (hT.below hb))
 have HF := hid (show linesX n d = if okT n d = true then linesT n d else [] from rfl)
 by_cases hok : okT n d = true
 ·obtain ⟨h3, hsh⟩ := okT_parts hok
  have HS := hid (fun (W : World) (hb : Below w.heap.size w W) => all_wrI n d cs W w lo w.heap.size (h.old hb) hb.size hsh h3 (Nat.le_trans (okT_dep hok) (by decide)) hT hP (Nat.le_refl _) hb)
  obtain ⟨L, hL⟩ : ∃ L, L = linesT n d := ⟨_, rfl⟩
  rw [<- hL] at HS HF
  rw [show linesX n d = L by rw [HF.out, if_pos hok]]
  rw [hok] at HK
  obtain ⟨A4, c4, A5, c5, rfl⟩ := C_Tree.open h
  clear h hok hL hz hsh h3 hT hP HF
  go_enter Tryz.func42, Tryz.ntmps42
  go_upto_region 3 with (go_at_call 81; refine (HK.out _ bel).mono ?_; rintro e w1 ⟨rfl, hb⟩; (first | (have hcu2 := Cum.join hcu hb; (try clear hcu); (try clear hc); (try clear hfz); (try clear hsz); (try clear hs0); (try clear hs1); (try clear hs2); (try clear hs3); (try clear hs4); ) | have hcu2 := Cum.mk hb); have hcu := hcu2; clear hcu2; obtain ⟨hc, hfz⟩ := bcell hcu.h; have hsz := hcu.h.size; (try simp at hsz); (try have hs0 := lt_of_succ_le hsz); (try (have hs1 := lt_pred hsz; (try (have hs2 := lt_pred hs1; (try (have hs3 := lt_pred hs2; (try have hs4 := lt_pred hs3))))))))
  go_wp2_with fail
  refine (HS.out _ bel).mono ?_
  rintro e w9 ⟨A, c, rfl, hr, hb9⟩
  have HR := hid hr
  have hw1 : Below w.heap.size w w1 := bel
  have hsw := hw1.size
  have HB := hid (hw1.trans (hb9.mono hsw))
  clear hr hb9
  go_wp2_with fail
  go_ret
  exact ⟨A, c, rfl, HR.out.less hsw, HB.out⟩
 ·rw [show linesX n d = [] by rw [HF.out, if_neg hok]]
  rw [Bool.not_eq_true] at hok
  rw [hok] at HK
  obtain ⟨A4, c4, A5, c5, rfl⟩ := C_Tree.open h
  clear h hok hz hT hP HF
  go_enter Tryz.func42, Tryz.ntmps42
  go_wp2_with (go_at_call 81; refine (HK.out _ bel).mono ?_; rintro e w1 ⟨rfl, hb⟩; (first | (have hcu2 := Cum.join hcu hb; (try clear hcu); (try clear hc); (try clear hfz); (try clear hsz); (try clear hs0); (try clear hs1); (try clear hs2); (try clear hs3); (try clear hs4); ) | have hcu2 := Cum.mk hb); have hcu := hcu2; clear hcu2; obtain ⟨hc, hfz⟩ := bcell hcu.h; have hsz := hcu.h.size; (try simp at hsz); (try have hs0 := lt_of_succ_le hsz); (try (have hs1 := lt_pred hsz; (try (have hs2 := lt_pred hs1; (try (have hs3 := lt_pred hs2; (try have hs4 := lt_pred hs3))))))))
  go_ret
  exact ⟨none, 0, rfl, ⟨rfl, World.ownsRow_nil _ _ _ _⟩, bel⟩
theorem c_spec_IndentedLines (n : Nat) (d : TreeD) (cs : List Value) (w : World) (lo : Nat) (h : C_Tree n lo w.heap.size w d cs) (hz : sizeT n d <= 1073741824) :
  Calls Tryz.prog 44 #[.agg cs.toArray] w fun e w' => ∃ (A : Option Addr) (c : Nat), e = .returned (.slice A (linesX n d).length c) /\ RowS w.heap.size w' (txts (linesX n d)) (linesX n d).length (.slice A (linesX n d).length c) /\ Below w.heap.size w w' := by
 have HK := hid (fun (W : World) (hb : Below w.heap.size w W) => c_spec_TreeOk n d cs W lo (h.now hb) hz)
 have HF := hid (show linesX n d = if okT n d = true then linesT n d else [] from rfl)
 by_cases hok : okT n d = true
 ·obtain ⟨h3, hsh⟩ := okT_parts hok
  have HS := hid (fun (W : World) (hb : Below w.heap.size w W) => all_wrS n d cs W lo w.heap.size (h.old hb) hb.size hsh h3 (Nat.le_trans (okT_dep hok) (by decide)))
  obtain ⟨L, hL⟩ : ∃ L, L = linesT n d := ⟨_, rfl⟩
  rw [<- hL] at HS HF
  rw [show linesX n d = L by rw [HF.out, if_pos hok]]
  rw [hok] at HK
  obtain ⟨A4, c4, A5, c5, rfl⟩ := C_Tree.open h
  clear h hok hL hz hsh h3 HF
  go_enter Tryz.func44, Tryz.ntmps44
  go_upto_region 3 with (go_at_call 22; refine (HK.out _ bel).mono ?_; rintro e w1 ⟨rfl, hb⟩; (first | (have hcu2 := Cum.join hcu hb; (try clear hcu); (try clear hc); (try clear hfz); (try clear hsz); (try clear hs0); (try clear hs1); (try clear hs2); (try clear hs3); (try clear hs4); ) | have hcu2 := Cum.mk hb); have hcu := hcu2; clear hcu2; obtain ⟨hc, hfz⟩ := bcell hcu.h; have hsz := hcu.h.size; (try simp at hsz); (try have hs0 := lt_of_succ_le hsz); (try (have hs1 := lt_pred hsz; (try (have hs2 := lt_pred hs1; (try (have hs3 := lt_pred hs2; (try have hs4 := lt_pred hs3))))))))
  go_wp2_with fail
  refine (HS.out _ bel).mono ?_
  rintro e w9 ⟨A, c, rfl, hr, hb9⟩
  have HR := hid hr
  have hw1 : Below w.heap.size w w1 := bel
  have hsw := hw1.size
  have HB := hid (hw1.trans (hb9.mono hsw))
  clear hr hb9
  go_wp2_with fail
  go_ret
  exact ⟨A, c, rfl, HR.out.less hsw, HB.out⟩
 ·rw [show linesX n d = [] by rw [HF.out, if_neg hok]]
  rw [Bool.not_eq_true] at hok
  rw [hok] at HK
  obtain ⟨A4, c4, A5, c5, rfl⟩ := C_Tree.open h
  clear h hok hz HF
  go_enter Tryz.func44, Tryz.ntmps44
  go_wp2_with (go_at_call 22; refine (HK.out _ bel).mono ?_; rintro e w1 ⟨rfl, hb⟩; (first | (have hcu2 := Cum.join hcu hb; (try clear hcu); (try clear hc); (try clear hfz); (try clear hsz); (try clear hs0); (try clear hs1); (try clear hs2); (try clear hs3); (try clear hs4); ) | have hcu2 := Cum.mk hb); have hcu := hcu2; clear hcu2; obtain ⟨hc, hfz⟩ := bcell hcu.h; have hsz := hcu.h.size; (try simp at hsz); (try have hs0 := lt_of_succ_le hsz); (try (have hs1 := lt_pred hsz; (try (have hs2 := lt_pred hs1; (try (have hs3 := lt_pred hs2; (try have hs4 := lt_pred hs3))))))))
  go_ret
  exact ⟨_, _, rfl, RowS.empty rfl (show Below w.heap.size w _ from bel).size, bel⟩
theorem c_impl_IndentedText (n : Nat) (d : TreeD) (cs : List Value) (w : World) (lo : Nat) (h : C_Tree n lo w.heap.size w d cs) (hz : sizeT n d <= 1073741824) (hT : Tabs w) (hP : Pow w) :
  Calls Tryz.prog 41 #[.agg cs.toArray] w fun e w' => e = .returned (.string (indB n d)) /\ Below w.heap.size w w' := by
 have HK := hid (fun (W : World) (hb : Below w.heap.size w W) => c_impl_TreeOk n d cs W lo (h.now hb) hz (hT.below hb))
 have HF := hid (show indB n d = if okT n d = true then (if 20000 < (textL (linesT n d)).length then ⟨#[]⟩ else bs (textL (linesT n d))) else ⟨#[]⟩ from rfl)
 by_cases hok : okT n d = true
 ·obtain ⟨h3, hsh⟩ := okT_parts hok
  have hlb := lin_ok n d hsh (num_of h)
  have hlen := Nat.le_trans hlb.many h3
  have hlong : ∀ x ∈ linesT n d, x.length <= 4886 := fun x hx => by have := hlb.long x hx; have := okT_dep hok; omega
  obtain ⟨x0, r0, hxr⟩ := hlb.hd
  have HS := hid (fun (W : World) (hb : Below w.heap.size w W) => all_wrI n d cs W w lo w.heap.size (h.old hb) hb.size hsh h3 (Nat.le_trans (okT_dep hok) (by decide)) hT hP (Nat.le_refl _) hb)
  obtain ⟨L, hL⟩ : ∃ L, L = linesT n d := ⟨_, rfl⟩
  rw [<- hL] at HS HF hlen hlong hxr
  obtain ⟨b, hb⟩ : ∃ b, b = indB n d := ⟨_, rfl⟩
  rw [<- hb] at HF ⊢
  rw [hok] at HK HF
  have htl := textL_len L hlong
  have hjt : Lib.join L [10] ++ [10] = textL L := by rw [hxr]; exact join_text _ _
  obtain ⟨j, hj⟩ : ∃ j, j = Lib.join L [10] := ⟨_, rfl⟩
  rw [<- hj] at hjt
  have hjl : j.length + 1 = (textL L).length := by rw [<- hjt, List.length_append]; rfl
  have HJ := hid hj
  obtain ⟨js, hjs⟩ : ∃ js : ByteArray, js = ⟨j.toArray⟩ := ⟨_, rfl⟩
  have hjz : js.size = j.length := by rw [hjs]; show j.toArray.size = j.length; simp
  have HJs := hid hjs
  have hLp : 0 < L.length := by rw [hxr]; exact Nat.succ_pos _
  have hjb : js.size + 1 <= 2000000 := by
   have h5 : (4886 + 1) * L.length <= (4886 + 1) * 300 := Nat.mul_le_mul_left _ hlen
   omega
  have HTx := hid (show js ++ (⟨#[10]⟩ : ByteArray) = bs (textL L) by rw [<- hjt, bs_cat, hjs]; rfl)
  have HTl := hid (show js.size + 1 = (textL L).length by omega)
  obtain ⟨A4, c4, A5, c5, rfl⟩ := C_Tree.open h
  clear h hok hL hb hz hsh h3 hT hP hlb hxr htl hjt hj hjl hjs hjz
  have hfin : ∀ (q c9 : Nat) (w9 : World), q < w9.heap.size -> L.length <= c9 -> (∀ i s, (txts L)[i]? = some s -> w9.cell? ⟨q, i, none⟩ = some (.string s)) -> Calls Tryz.prog 82 #[.slice (some ⟨q, 0, none⟩) L.length c9, .string ⟨#[10]⟩] w9 fun e w' => e = .returned (.string js) /\ Below w9.heap.size w9 w' := fun q c9 w9 h1 h2 h3 => by
   have hl := txts_len L
   have hm := txts_list L
   have e0 : (⟨#[10]⟩ : ByteArray).data.toList = [10] := rfl
   have := Any.strings_Join laysJoin joinX q 0 c9 (txts L) ⟨#[10]⟩ w9 (fun j x hx => by rw [Nat.zero_add]; exact h3 j x hx) h1 (by rw [hl]; omega) (by rw [hl]; exact h2) (by
    rw [hm, e0, <- HJ.out]
    have : j.length = js.size := by rw [HJs.out]; show _ = j.toArray.size; simp
    omega)
   rw [hl, hm, e0, <- HJ.out, <- HJs.out] at this
   exact this
  have HFin := hid hfin
  clear hfin
  by_cases hlg : 20000 < (textL L).length
  ·have HX := hid (show b = ⟨#[]⟩ by rw [HF.out, if_pos rfl, if_pos hlg])
   have hzz := HTl.out
   have dl : decide ((20000 : Int) < (js.size : Int) + 1) = true := decide_eq_true (by omega)
   have dl2 : decide (20000 < js.size + 1) = true := decide_eq_true (by omega)
   have dl3 : (20000 : Int) < (js.size : Int) + 1 := by omega
   clear hlg hzz
   go_enter Tryz.func41, Tryz.ntmps41
   go_upto_region 3 with (go_at_call 81; refine (HK.out _ bel).mono ?_; rintro e w1 ⟨rfl, hb⟩; (first | (have hcu2 := Cum.join hcu hb; (try clear hcu); (try clear hc); (try clear hfz); (try clear hsz); (try clear hs0); (try clear hs1); (try clear hs2); (try clear hs3); (try clear hs4); ) | have hcu2 := Cum.mk hb); have hcu := hcu2; clear hcu2; obtain ⟨hc, hfz⟩ := bcell hcu.h; have hsz := hcu.h.size; (try simp at hsz); (try have hs0 := lt_of_succ_le hsz); (try (have hs1 := lt_pred hsz; (try (have hs2 := lt_pred hs1; (try (have hs3 := lt_pred hs2; (try have hs4 := lt_pred hs3))))))))
   go_wp2_with fail
   refine (HS.out _ bel).mono ?_
   rintro e w9 ⟨A, c, rfl, hr, hb9⟩
   obtain ⟨q, rfl, hq1, hq2, hq3, hq4⟩ := hr.open hLp
   have hw1 : Below w.heap.size w w1 := bel
   have hsw := hw1.size
   have HB := hid (hw1.trans (hb9.mono hsw))
   have HC := hid (HFin.out q c w9 hq2 hq3 hq4)
   clear hr hb9 hq4
   go_wp2_with fail
   refine HC.out.mono ?_
   rintro e w10 ⟨rfl, hb10⟩
   have HB2 := hid (HB.out.trans (hb10.mono HB.out.size))
   clear hb10
   go_wp2_with fail
   go_ret
   exact ⟨by rw [HX.out]; rfl, HB2.out⟩
  ·have HX := hid (show b = js ++ (⟨#[10]⟩ : ByteArray) by rw [HF.out, if_pos rfl, if_neg hlg, HTx.out])
   have hzz := HTl.out
   have dl : decide ((20000 : Int) < (js.size : Int) + 1) = false := decide_eq_false (by omega)
   have dl2 : decide (20000 < js.size + 1) = false := decide_eq_false (by omega)
   clear hlg hzz
   go_enter Tryz.func41, Tryz.ntmps41
   go_upto_region 3 with (go_at_call 81; refine (HK.out _ bel).mono ?_; rintro e w1 ⟨rfl, hb⟩; (first | (have hcu2 := Cum.join hcu hb; (try clear hcu); (try clear hc); (try clear hfz); (try clear hsz); (try clear hs0); (try clear hs1); (try clear hs2); (try clear hs3); (try clear hs4); ) | have hcu2 := Cum.mk hb); have hcu := hcu2; clear hcu2; obtain ⟨hc, hfz⟩ := bcell hcu.h; have hsz := hcu.h.size; (try simp at hsz); (try have hs0 := lt_of_succ_le hsz); (try (have hs1 := lt_pred hsz; (try (have hs2 := lt_pred hs1; (try (have hs3 := lt_pred hs2; (try have hs4 := lt_pred hs3))))))))
   go_wp2_with fail
   refine (HS.out _ bel).mono ?_
   rintro e w9 ⟨A, c, rfl, hr, hb9⟩
   obtain ⟨q, rfl, hq1, hq2, hq3, hq4⟩ := hr.open hLp
   have hw1 : Below w.heap.size w w1 := bel
   have hsw := hw1.size
   have HB := hid (hw1.trans (hb9.mono hsw))
   have HC := hid (HFin.out q c w9 hq2 hq3 hq4)
   clear hr hb9 hq4
   go_wp2_with fail
   refine HC.out.mono ?_
   rintro e w10 ⟨rfl, hb10⟩
   have HB2 := hid (HB.out.trans (hb10.mono HB.out.size))
   clear hb10
   go_wp2_with fail
   go_ret
   exact ⟨by rw [HX.out]; rfl, HB2.out⟩
 ·rw [Bool.not_eq_true] at hok
  obtain ⟨A4, c4, A5, c5, rfl⟩ := C_Tree.open h
  have HX := hid (show indB n d = ⟨#[]⟩ by rw [HF.out, if_neg (by rw [hok]; decide)])
  rw [hok] at HK
  clear h hok HF hz hT hP
  go_enter Tryz.func41, Tryz.ntmps41
  go_wp2_with (go_at_call 81; refine (HK.out _ bel).mono ?_; rintro e w1 ⟨rfl, hb⟩; (first | (have hcu2 := Cum.join hcu hb; (try clear hcu); (try clear hc); (try clear hfz); (try clear hsz); (try clear hs0); (try clear hs1); (try clear hs2); (try clear hs3); (try clear hs4); ) | have hcu2 := Cum.mk hb); have hcu := hcu2; clear hcu2; obtain ⟨hc, hfz⟩ := bcell hcu.h; have hsz := hcu.h.size; (try simp at hsz); (try have hs0 := lt_of_succ_le hsz); (try (have hs1 := lt_pred hsz; (try (have hs2 := lt_pred hs1; (try (have hs3 := lt_pred hs2; (try have hs4 := lt_pred hs3))))))))
  go_ret
  exact ⟨by rw [HX.out]; rfl, bel⟩
def inN (s : ByteArray) : ByteArray × Flt := if (readIn s).1.code = 0 then (indB 10 (readIn s).2, flt0) else (⟨#[]⟩, (readIn s).1)
theorem c_impl_IndentedNormal (s : ByteArray) (w : World) (hs : s.size <= 1048576) (hP : Pow w) (hE : ErrR w) (hT : Tabs w) (hV : CTab w) (hM : MaxL w) :
  Calls Tryz.prog 15 #[.string s] w fun e w' => e = .returned (.tuple #[.string (inN s).1, .agg (fltC (inN s).2)]) /\ Below w.heap.size w w' := by
 have hz := size_readIn s
 have HF := hid (show inN s = if (readIn s).1.code = 0 then (indB 10 (readIn s).2, flt0) else (⟨#[]⟩, (readIn s).1) from rfl)
 have hf0 := readIn_flt s
 have HI := hid (fun (w' : World) (h : Below w.heap.size w w') => c_impl_ReadIndented s w' hs (hV.below h) (hT.below h) (hE.below h) (hM.below h))
 obtain ⟨r, hr⟩ : ∃ r, r = readIn s := ⟨_, rfl⟩
 rw [<- hr] at HI HF hz hf0
 obtain ⟨b, hb⟩ : ∃ b, b = inN s := ⟨_, rfl⟩
 rw [<- hb] at HF ⊢
 clear hr hb
 obtain ⟨⟨fc, fa, fp⟩, t⟩ := r
 simp only at HF hz hf0
 have hrf : fltC (⟨fc, fa, fp⟩ : Flt) = #[.int .i64 fc, .int .i64 fa, .string fp] := rfl
 go_enter Tryz.func15, Tryz.ntmps15
 go_wp2_with fail
 refine (HI.out _ bel).mono ?_
 rintro e w1 ⟨cs, rfl, hO1, hb1⟩
 have HC1 := hid (hO1.toC (fun _ h => h))
 obtain ⟨U4, u44, U5, u55, rfl, -⟩ := hO1.flat
 simp only [hrf]
 clear hO1 hrf
 have X0 : w1.heap[w.heap.size]? = some (.cells #[.int .i64 0, .int .i64 0, .string ⟨#[]⟩] 23 (0, 0)) := (hb1.block _ (by simp)).trans (heap_at rfl)
 have hb01 : Below w.heap.size w w1 := Below.trans bel (hb1.mono (by simp))
 have l0 := row_lt X0
 have HX0 := hid X0
 have HB01 := hid hb01
 clear hb1 X0 hb01
 go_upto_region 2 with fail
 obtain ⟨w2, hw2⟩ : ∃ W, W = (w1.alloc (.cells #[.int .i64 t.kind, .bool t.flag, .int .i64 t.num, .string t.text, .slice U4 t.keys.length u44, .slice U5 t.kids.length u55] 34)).alloc (.cells #[.int .i64 fc, .int .i64 fa, .string fp] 23) := ⟨_, rfl⟩
 have hb2 : Below w1.heap.size w1 w2 := by rw [hw2]; exact bel
 have X1 : w2.heap[w1.heap.size]? = some (.cells #[.int .i64 t.kind, .bool t.flag, .int .i64 t.num, .string t.text, .slice U4 t.keys.length u44, .slice U5 t.kids.length u55] 34 (0, 0)) := by rw [hw2]; exact (Below.heap_alloc _ _ _ (by simp)).trans (heap_at rfl)
 have X2 : w2.heap[w1.heap.size + 1]? = some (.cells #[.int .i64 fc, .int .i64 fa, .string fp] 23 (0, 0)) := by rw [hw2]; exact heap_at (by simp)
 rw [<- hw2]
 have s2 := hb2.size
 have HX1 := hid X1
 have HX2 := hid X2
 have HX02 := hid ((hb2.block _ l0).trans HX0.out)
 have HB02 := hid (HB01.out.trans (hb2.mono HB01.out.size))
 have hz01 := HB01.out.size
 have HC2 := hid ((HC1.out.keep (same_below hb2) (Nat.zero_le _) hb2.size : C_Tree 10 0 w2.heap.size w2 t _))
 have l1 := row_lt X1
 have l2 := row_lt X2
 obtain ⟨x0, x1, x2, x3, x4, x5, xf⟩ := row6 X1
 obtain ⟨y0, y1, y2, yf⟩ := row3 X2
 obtain ⟨z0, z1, z2, zf⟩ := row3 HX02.out
 have l02 := row_lt HX02.out
 clear hw2 hb2 X1 X2 HC1 HX0 HB01
 have q1 : (fc == 0) = false ∨ (fc == 0) = true := by rcases (fc == 0) with _ | _ <;> simp
 rcases q1 with q1 | q1
 ·have hne : fc ≠ 0 := fun e => by rw [e] at q1; cases q1
  have HX := hid (show b = (⟨#[]⟩, ⟨fc, fa, fp⟩) by rw [HF.out, if_neg hne])
  clear hne hf0
  go_upto_region 3 with fail
  go_region_law fail
  go_wp2_with fail
  have hb2 := HB02.out
  all_goals exact bodyPost_ret (v := .tuple #[.string ⟨#[]⟩, .agg #[.int .i64 fc, .int .i64 fa, .string fp]]) (by simp only [results, Tryz.results15]; go_simp) rfl ⟨by rw [HX.out]; rfl, bel⟩
 ·have he : fc = 0 := by simpa using q1
  have HX := hid (show b = (indB 10 t, flt0) by rw [HF.out, if_pos he])
  have h0 := hf0 he
  unfold flt0 at h0
  injection h0 with e1 e2 e3
  subst e1 e2 e3
  clear hf0 he
  have HT := hid (fun (w' : World) (h : Below w2.heap.size w2 w') => c_impl_IndentedText 10 t _ w' 0 (HC2.out.now h) hz (hT.below (HB02.out.trans (h.mono HB02.out.size))) (hP.below (HB02.out.trans (h.mono HB02.out.size))))
  go_wp2_with fail
  refine (HT.out _ bel).mono ?_
  rintro e w3 ⟨rfl, hb3⟩
  have h23 : Below w2.heap.size w2 w3 := Below.trans bel (hb3.mono (by simp))
  have h03 := HB02.out.trans (h23.mono HB02.out.size)
  have X0 := (h23.block _ l02).trans HX02.out
  have X2 := (h23.block _ l2).trans HX2.out
  obtain ⟨u0, u1, u2, uf⟩ := row3 X2
  obtain ⟨v0, v1, v2, vf⟩ := row3 X0
  have l03 := row_lt X0
  have l23 := row_lt X2
  clear y0 y1 y2 yf z0 z1 z2 zf x0 x1 x2 x3 x4 x5 xf
  go_wp2_with fail
  have hb2 := HB02.out
  all_goals exact bodyPost_ret (v := .tuple #[.string (indB 10 t), .agg #[.int .i64 0, .int .i64 0, .string ⟨#[]⟩]]) (by simp only [results, Tryz.results15]; go_simp) rfl ⟨by rw [HX.out]; rfl, bel⟩
def okI (s : ByteArray) : Bool := (readIn s).1.code == 0
theorem c_impl_IndentedOk (s : ByteArray) (w : World) (hs : s.size <= 1048576) (hV : CTab w) (hT : Tabs w) (hE : ErrR w) (hM : MaxL w) :
  Calls Tryz.prog 21 #[.string s] w fun e w' => e = .returned (.bool (okI s)) /\ Below w.heap.size w w' := by
 have HI := hid (c_impl_ReadIndented s w hs hV hT hE hM)
 have HF := hid (show okI s = ((readIn s).1.code == 0) from rfl)
 obtain ⟨r, hr⟩ : ∃ r, r = readIn s := ⟨_, rfl⟩
 rw [<- hr] at HI HF
 clear hV hT hE hM hr
 obtain ⟨⟨fc, fa, fp⟩, t⟩ := r
 go_enter Tryz.func21, Tryz.ntmps21
 go_wp2_with fail
 refine HI.out.mono ?_
 rintro e w1 ⟨cs, rfl, hO, hb1⟩
 obtain ⟨U4, u44, U5, u55, rfl, -⟩ := hO.flat
 clear hO
 have hrf : fltC (⟨fc, fa, fp⟩ : Flt) = #[.int .i64 fc, .int .i64 fa, .string fp] := rfl
 simp only [hrf]
 clear hrf
 go_wp2_with fail
 go_ret
 exact ⟨ret_bool HF.out.symm, bel⟩
structure FiveM (w : World) : Prop where
 four : Four w
 max : MaxL w
theorem FiveM.below {w w' : World} (h : FiveM w) (hb : Below w.heap.size w w') : FiveM w' := ⟨h.four.below hb, h.max.below hb⟩
theorem TenI.lines {d : TreeD} (h : TenI d) : linesX 10 d = linesT 10 d := if_pos h.ten.ok
theorem TenI.okI {d : TreeD} (h : TenI d) : Go.Proofs.YtohcpifekcehjaaGreatDoor.okI (tin d) = true := by
 unfold Go.Proofs.YtohcpifekcehjaaGreatDoor.okI
 rw [h.read]
 rfl
theorem TenI.norm {d : TreeD} (h : TenI d) : inN ((⟨#[35, 32, 115, 97, 105, 100, 10, 10]⟩ : ByteArray) ++ tin d ++ ⟨#[32, 32, 32, 35, 32, 115, 97, 105, 100, 10]⟩) = (tin d, flt0) := by
 have e : readIn ((⟨#[35, 32, 115, 97, 105, 100, 10, 10]⟩ : ByteArray) ++ tin d ++ ⟨#[32, 32, 32, 35, 32, 115, 97, 105, 100, 10]⟩) = (flt0, d) := h.said
 unfold inN
 rw [e]
 simp only
 rw [if_pos (show flt0.code = 0 from rfl), h.text]
theorem TenI.callR {d : TreeD} (h : TenI d) {w : World} (hC : FiveM w) (W : World) (hb : Below w.heap.size w W) : Calls Tryz.prog 18 #[.string (tin d)] W (ReadE (flt0, d) W) := by
 have hC := hC.below hb
 have := c_impl_ReadIndented (tin d) W (by have := h.size; omega) hC.four.cas hC.four.tab hC.four.err hC.max
 rw [h.read] at this
 exact this
theorem callZI {w : World} (hC : FiveM w) (W : World) (hb : Below w.heap.size w W) : Calls Tryz.prog 18 #[.string ⟨#[]⟩] W (ReadE (⟨4, 1, ⟨#[]⟩⟩, treeZ) W) := by
 have hC := hC.below hb
 have := c_impl_ReadIndented ⟨#[]⟩ W (by decide) hC.four.cas hC.four.tab hC.four.err hC.max
 rw [readIn_none] at this
 exact this
theorem callDI {w : World} (hC : FiveM w) (W : World) (hb : Below w.heap.size w W) : Calls Tryz.prog 18 #[.string ⟨#[32, 97, 10]⟩] W (ReadE (⟨4, 1, ⟨#[]⟩⟩, treeZ) W) := by
 have hC := hC.below hb
 have := c_impl_ReadIndented ⟨#[32, 97, 10]⟩ W (by decide) hC.four.cas hC.four.tab hC.four.err hC.max
 rw [show readIn ⟨#[32, 97, 10]⟩ = (⟨4, 1, ⟨#[]⟩⟩, treeE) from readIn_deep] at this
 exact this
theorem TenI.callN {d : TreeD} (h : TenI d) {w : World} (hC : FiveM w) (W : World) (hb : Below w.heap.size w W) : Calls Tryz.prog 15 #[.string ((⟨#[35, 32, 115, 97, 105, 100, 10, 10]⟩ : ByteArray) ++ tin d ++ ⟨#[32, 32, 32, 35, 32, 115, 97, 105, 100, 10]⟩)] W fun e w' => e = .returned (.tuple #[.string (tin d), .agg (fltC flt0)]) /\ Below W.heap.size W w' := by
 have hC := hC.below hb
 have := c_impl_IndentedNormal ((⟨#[35, 32, 115, 97, 105, 100, 10, 10]⟩ : ByteArray) ++ tin d ++ ⟨#[32, 32, 32, 35, 32, 115, 97, 105, 100, 10]⟩) W (by rw [ByteArray.size_append, ByteArray.size_append]; have := h.size; show 8 + _ + 10 <= _; omega) hC.four.pow hC.four.err hC.four.tab hC.four.cas hC.max
 rw [h.norm] at this
 exact this
theorem TenI.callB {d : TreeD} (h : TenI d) {w : World} (hC : FiveM w) (W : World) (hb : Below w.heap.size w W) : Calls Tryz.prog 21 #[.string (tin d)] W fun e w' => e = .returned (.bool true) /\ Below W.heap.size W w' := by
 have hC := hC.below hb
 have := c_impl_IndentedOk (tin d) W (by have := h.size; omega) hC.four.cas hC.four.tab hC.four.err hC.max
 rw [h.okI] at this
 exact this
theorem TenI.callT {d : TreeD} (h : TenI d) {w : World} (hC : FiveM w) (cs : List Value) (W : World) (hb : Below w.heap.size w W) (hd : C_Tree 10 0 W.heap.size W d cs) : Calls Tryz.prog 41 #[.agg cs.toArray] W fun e w' => e = .returned (.string (tin d)) /\ Below W.heap.size W w' := by
 have hC := hC.below hb
 have := c_impl_IndentedText 10 d cs W 0 hd (Nat.le_trans h.ten.size (by decide)) hC.four.tab hC.four.pow
 rw [h.text] at this
 exact this
def RowR (L : List ByteArray) (w : World) (e : Ending) (w' : World) : Prop := ∃ (A : Option Addr) (c : Nat), e = .returned (.slice A L.length c) /\ RowS w.heap.size w' L L.length (.slice A L.length c) /\ Below w.heap.size w w'
theorem TenI.callL {d : TreeD} (h : TenI d) {w : World} (hC : FiveM w) (cs : List Value) (W : World) (hb : Below w.heap.size w W) (hd : C_Tree 10 0 W.heap.size W d cs) : Calls Tryz.prog 42 #[.agg cs.toArray] W (RowR (txts (linesT 10 d)) W) := by
 have hC := hC.below hb
 have := c_impl_IndentedLines 10 d cs W 0 hd (Nat.le_trans h.ten.size (by decide)) hC.four.tab hC.four.pow
 rw [h.lines] at this
 unfold RowR
 rw [txts_len]
 exact this
theorem TenI.callS {d : TreeD} (h : TenI d) (cs : List Value) (W : World) (hd : C_Tree 10 0 W.heap.size W d cs) : Calls Tryz.prog 44 #[.agg cs.toArray] W (RowR (txts (linesT 10 d)) W) := by
 have := c_spec_IndentedLines 10 d cs W 0 hd (Nat.le_trans h.ten.size (by decide))
 rw [h.lines] at this
 unfold RowR
 rw [txts_len]
 exact this
theorem c_sameTexts (L : List ByteArray) (base base' c c' : Nat) (A A' : Option Addr) (w : World) (ha : RowS base w L L.length (.slice A L.length c)) (hb : RowS base' w L L.length (.slice A' L.length c')) (hn : L.length <= 1048576) :
  Calls Tryz.prog 43 #[.slice A L.length c, .slice A' L.length c'] w fun e w' => e = .returned (.bool true) /\ Below w.heap.size w w' := by
 have hz : ((L.length : Int) != L.length) = false := by simp
 have HA := hid ha
 have HB := hid hb
 clear ha hb
 go_enter Tryz.func43, Tryz.ntmps43
 go_wp2_with fail
 go_loopw [5] (fun i wr => ∃ k : Nat, k <= L.length /\ i = .int .i64 k /\ Below w.heap.size w wr) (fun i _ => L.length - (intOf i).toNat)
 case atStart => exact ⟨0, Nat.zero_le _, rfl, bel⟩
 case round =>
  obtain ⟨k, hk, rfl, hbr⟩ := hrel
  by_cases hlt : k < L.length
  ·obtain ⟨q, rfl, -, hq2, -, hq4⟩ := HA.out.open (by omega)
   obtain ⟨q', rfl, -, hp2, -, hp4⟩ := HB.out.open (by omega)
   obtain ⟨x, hx⟩ := exists_at hlt
   have hc0 := (hbr.cell (p := ⟨q, k, none⟩) hq2).trans (hq4 k x hx)
   have hd0 := (hbr.cell (p := ⟨q', k, none⟩) hp2).trans (hp4 k x hx)
   have hbr1 := Nat.lt_of_lt_of_le hq2 hbr.size
   have hbr2 := Nat.lt_of_lt_of_le hp2 hbr.size
   have hk0 : (0 : Int) <= k := by omega
   have hk1 : (k : Int) < L.length := by omega
   have q0 : (x.toList != x.toList) = false := by simp
   have q1 : (x.toList == x.toList) = true := by simp
   clear hq4 hp4 hx
   go_wp2_with fail
   refine wp_region_det 9 (by kernel_rfl) (by kernel_rfl) (by decide) ?_
   iterate 3 refine ds ?_
   refine ds ?_
   iterate 3 refine ds ?_
   refine ds ?_
   refine ds ?_
   intro w1 hb
   (first | (have hcu2 := Cum.join hcu hb; (try clear hcu); (try clear hc); (try clear hfz); (try clear hsz); (try clear hs0); (try clear hs1); (try clear hs2); (try clear hs3); (try clear hs4); ) | have hcu2 := Cum.mk hb); have hcu := hcu2; clear hcu2; obtain ⟨hc, hfz⟩ := bcell hcu.h; have hsz := hcu.h.size; (try simp at hsz); (try have hs0 := lt_of_succ_le hsz); (try (have hs1 := lt_pred hsz; (try (have hs2 := lt_pred hs1; (try (have hs3 := lt_pred hs2; (try have hs4 := lt_pred hs3)))))))
   (try simp only [Act.put, List.setIfInBounds_toArray, List.set_cons_zero, List.set_cons_succ])
   (try simp only [List.drop_succ_cons, List.drop_nil])
   go_wp2_with fail
   go_roundw
   case rel => exact ⟨k + 1, by omega, by go_num, bel⟩
   case measure => simp [intOf]; omega
  ·obtain rfl : k = L.length := by omega
   go_wp2_with fail
   go_ret
   exact ⟨rfl, bel⟩
theorem w_FnIndented (d0 : List UInt8) (v0 : Value) (w : World) (h0 : R_bytes w d0 v0) (hP : Pow w) (hE : ErrR w) (hT : Tabs w) (hV : CTab w) (hM : MaxL w) :
  Calls Tryz.prog 9 #[v0] w fun e w' => e = .returned (.bool true) /\ Below w.heap.size w w' := by
 have H0 := hid h0
 obtain ⟨A, c, rfl, -⟩ := h0
 have HC := hid (FiveM.mk (Four.mk hP hE hT hV) hM)
 clear hP hE hT hV hM
 by_cases hq : d0.length <= 1048576
 ·go_enter Tryz.func9, Tryz.ntmps9
  go_wp2_with (go_at_call 16; refine (c_laws_big_no d0 A c _ hq).mono ?_; rintro e w' ⟨rfl, rfl⟩)
  refine (c_DrawTree d0 _ 0 _ H0.out hq).mono ?_
  rintro e w1 ⟨d, cs, rfl, hD, hO, hb1⟩
  have hten := hD.tenI
  have hO10 := hO.up (m := 10) (by decide)
  obtain ⟨C4, e4, C5, e5, rfl, -⟩ := hO10.flat
  have HR := hid (hten.callR HC.out)
  have HZ := hid (callZI HC.out)
  have HW := hid (callDI HC.out)
  have HN := hid (hten.callN HC.out)
  have HB := hid (hten.callB HC.out)
  have HCd := hid (fun (W : World) (h : Below w1.heap.size w1 W) => (hO10.toC (lo := 0) (hi := w1.heap.size) (fun b hb => ⟨Nat.zero_le _, hb.2⟩)).now h)
  have HT := hid (hten.callT HC.out)
  have HL := hid (hten.callL HC.out)
  have HS := hid hten.callS
  have HE := hid (eqTr_refl 10 d hten.ten.shape)
  have hlast := hten.last
  have hmax : (tin d).size <= 1048576 := by have := hten.size; omega
  have hlp : 0 < (txts (linesT 10 d)).length := by rw [txts_len]; exact lines_pos hten.ten.shape hten.ten.num
  have hlm : (txts (linesT 10 d)).length <= 1048576 := by
   rw [txts_len]
   have h1 := (lin_ok 10 d hten.ten.shape hten.ten.num).many
   have h2 := hten.ten.size
   omega
  obtain ⟨s, hs⟩ : ∃ s, s = tin d := ⟨_, rfl⟩
  rw [<- hs] at HR HN HB HT hlast hmax
  obtain ⟨L, hLL⟩ : ∃ L, L = txts (linesT 10 d) := ⟨_, rfl⟩
  rw [<- hLL] at HL HS hlp hlm
  obtain ⟨hpos, hl10⟩ := hlast
  have HL10 := hid hl10
  have hpos1 : (0 : Int) < s.size := by omega
  have hlp1 : (0 : Int) < L.length := by omega
  have e0 : fltC flt0 = #[.int .i64 0, .int .i64 0, .string ⟨#[]⟩] := rfl
  have e2 : fltC (⟨4, 1, ⟨#[]⟩⟩ : Flt) = #[.int .i64 4, .int .i64 1, .string ⟨#[]⟩] := rfl
  have HF := hid (And.intro e0 e2)
  have B1 := hid hb1
  clear hs hLL hten hD hO hO10 hb1 e0 e2 hl10
  go_wp2_with fail
  obtain ⟨w2, hw2⟩ : ∃ W, W = w1.alloc (.cells #[.int .i64 d.kind, .bool d.flag, .int .i64 d.num, .string d.text, .slice C4 d.keys.length e4, .slice C5 d.kids.length e5] 34) := ⟨_, rfl⟩
  have B2 : Hid (Below w1.heap.size w1 w2) := hid (by rw [hw2]; exact bel)
  have X3 : Hid (w2.heap[w1.heap.size]? = some (.cells #[.int .i64 d.kind, .bool d.flag, .int .i64 d.num, .string d.text, .slice C4 d.keys.length e4, .slice C5 d.kids.length e5] 34 (0, 0))) := hid (by rw [hw2]; exact heap_at rfl)
  rw [<- hw2]
  clear hw2
  have H2 := hid (bb B1.out B2.out)
  refine (HT.out _ w2 H2.out (HCd.out w2 B2.out)).mono ?_
  rintro e w3 ⟨rfl, hb3⟩
  have B3 := hid hb3
  have H3 := hid (bb H2.out hb3)
  clear hb3
  go_wp2_with fail
  refine (HR.out w3 H3.out).mono ?_
  rintro e w4 ⟨cs4, rfl, hO4, hb4⟩
  obtain ⟨D4, f4, D5, f5, rfl, -⟩ := hO4.flat
  have HCb := hid (fun (W : World) (h : Below w4.heap.size w4 W) => (hO4.toC (lo := 0) (hi := w4.heap.size) (fun b hb => ⟨Nat.zero_le _, hb.2⟩)).now h)
  simp only [HF.out.1]
  have B4 := hid hb4
  have H4 := hid (bb H3.out hb4)
  clear hb4 hO4
  go_wp2_with fail
  obtain ⟨w5, hw5⟩ : ∃ W, W = (w4.alloc (.cells #[.int .i64 d.kind, .bool d.flag, .int .i64 d.num, .string d.text, .slice D4 d.keys.length f4, .slice D5 d.kids.length f5] 34)).alloc (.cells #[.int .i64 0, .int .i64 0, .string ⟨#[]⟩] 23) := ⟨_, rfl⟩
  have B5 : Hid (Below w4.heap.size w4 w5) := hid (by rw [hw5]; exact bel)
  have X5 : Hid (w5.heap[w4.heap.size]? = some (.cells #[.int .i64 d.kind, .bool d.flag, .int .i64 d.num, .string d.text, .slice D4 d.keys.length f4, .slice D5 d.kids.length f5] 34 (0, 0))) := hid (by rw [hw5]; exact (Below.heap_alloc _ _ _ (by simp)).trans (heap_at rfl))
  have X6 : Hid (w5.heap[w4.heap.size + 1]? = some (.cells #[.int .i64 0, .int .i64 0, .string ⟨#[]⟩] 23 (0, 0))) := hid (by rw [hw5]; exact heap_at (by simp))
  rw [<- hw5]
  clear hw5
  have H5 := hid (bb H4.out B5.out)
  refine (HN.out w5 H5.out).mono ?_
  rintro e w6 ⟨rfl, hb6⟩
  simp only [HF.out.1]
  have B6 := hid hb6
  have H6 := hid (bb H5.out hb6)
  clear hb6
  have G6 := hid (bb (bb B3.out B4.out) (bb B5.out B6.out))
  have R3 := hid ((G6.out.block _ (row_lt X3.out)).trans X3.out)
  obtain ⟨a0, a1, a2, a3, a4, a5, af⟩ := row6 R3.out
  have la := row_lt R3.out
  go_wp2_with fail
  obtain ⟨w7, hw7⟩ : ∃ W, W = w6.alloc (.cells #[.int .i64 0, .int .i64 0, .string ⟨#[]⟩] 23) := ⟨_, rfl⟩
  have B7 : Hid (Below w6.heap.size w6 w7) := hid (by rw [hw7]; exact bel)
  have X8 : Hid (w7.heap[w6.heap.size]? = some (.cells #[.int .i64 0, .int .i64 0, .string ⟨#[]⟩] 23 (0, 0))) := hid (by rw [hw7]; exact heap_at (by simp))
  rw [<- hw7]
  clear hw7
  have H7 := hid (bb H6.out B7.out)
  have G7 := hid (bb G6.out B7.out)
  refine (HL.out _ w7 H7.out (HCd.out w7 (bb B2.out G7.out))).mono ?_
  rintro e w8 ⟨E4, g4, rfl, hr8, hb8⟩
  have HRl := hid hr8
  have B8 := hid hb8
  have H8 := hid (bb H7.out hb8)
  clear hb8 hr8 a0 a1 a2 a3 a4 a5 af la
  go_wp2_with fail
  refine (HZ.out w8 H8.out).mono ?_
  rintro e w9 ⟨cs9, rfl, hO9, hb9⟩
  obtain ⟨G4, i4, G5, i5, rfl, -⟩ := hO9.flat
  simp only [HF.out.2]
  have B9 := hid hb9
  have H9 := hid (bb H8.out hb9)
  clear hb9 hO9
  go_wp2_with fail
  obtain ⟨wa, hwa⟩ : ∃ W, W = (w9.alloc (.cells #[.int .i64 treeZ.kind, .bool treeZ.flag, .int .i64 treeZ.num, .string treeZ.text, .slice G4 treeZ.keys.length i4, .slice G5 treeZ.kids.length i5] 34)).alloc (.cells #[.int .i64 4, .int .i64 1, .string ⟨#[]⟩] 23) := ⟨_, rfl⟩
  have Ba : Hid (Below w9.heap.size w9 wa) := hid (by rw [hwa]; exact bel)
  have X10 : Hid (wa.heap[w9.heap.size + 1]? = some (.cells #[.int .i64 4, .int .i64 1, .string ⟨#[]⟩] 23 (0, 0))) := hid (by rw [hwa]; exact heap_at (by simp))
  rw [<- hwa]
  clear hwa
  have Ha := hid (bb H9.out Ba.out)
  refine (HW.out wa Ha.out).mono ?_
  rintro e wb ⟨csb, rfl, hOb, hbb⟩
  obtain ⟨I4, k4, I5, k5, rfl, -⟩ := hOb.flat
  simp only [HF.out.2]
  have Bb := hid hbb
  have Hb := hid (bb Ha.out hbb)
  clear hbb hOb
  go_upto_region 10 with fail
  obtain ⟨wc, hwc⟩ : ∃ W, W = (wb.alloc (.cells #[.int .i64 treeZ.kind, .bool treeZ.flag, .int .i64 treeZ.num, .string treeZ.text, .slice I4 treeZ.keys.length k4, .slice I5 treeZ.kids.length k5] 34)).alloc (.cells #[.int .i64 4, .int .i64 1, .string ⟨#[]⟩] 23) := ⟨_, rfl⟩
  have Bc : Hid (Below wb.heap.size wb wc) := hid (by rw [hwc]; exact bel)
  have X12 : Hid (wc.heap[wb.heap.size + 1]? = some (.cells #[.int .i64 4, .int .i64 1, .string ⟨#[]⟩] 23 (0, 0))) := hid (by rw [hwc]; exact heap_at (by simp))
  rw [<- hwc]
  clear hwc
  have Hc := hid (bb Hb.out Bc.out)
  have F11 := hid (bb Bb.out Bc.out)
  have F9 := hid (bb (bb B9.out Ba.out) F11.out)
  have F8 := hid (bb B8.out F9.out)
  have F5 := hid (bb (bb B6.out B7.out) F8.out)
  have F4 := hid (bb B5.out F5.out)
  have F2 := hid (bb G7.out F8.out)
  have F1 := hid (bb B2.out F2.out)
  have R3 := hid ((F2.out.block _ (row_lt X3.out)).trans X3.out)
  have R5 := hid ((F5.out.block _ (row_lt X5.out)).trans X5.out)
  have R6 := hid ((F5.out.block _ (row_lt X6.out)).trans X6.out)
  have R8 := hid ((F8.out.block _ (row_lt X8.out)).trans X8.out)
  have R10 := hid ((F11.out.block _ (row_lt X10.out)).trans X10.out)
  have hlast : ∀ (i : Nat) (hi : i < s.size), i + 1 = s.size -> s[i]'hi = 10 := HL10.out
  obtain ⟨m, hm⟩ : ∃ m, s.size = m + 1 := ⟨s.size - 1, by omega⟩
  have hmi : (s.size : Int) - 1 = (m : Int) := by omega
  have hms : m < s.size := by omega
  have hbyte : (s[m]'hms) = 10 := hlast m hms hm.symm
  obtain ⟨a0, a1, a2, a3, a4, a5, af⟩ := row6 R3.out
  obtain ⟨b0, b1, b2, b3, b4, b5, bf⟩ := row6 R5.out
  obtain ⟨c0, c1, c2, cf⟩ := row3 R6.out
  have la := row_lt R3.out
  have lb := row_lt R5.out
  have lc := row_lt R6.out
  go_wp2_with fail
  refine (all_sameS 10 d d _ _ wc 0 0 (HCb.out wc F4.out) (HCd.out wc F1.out)).mono ?_
  rintro e wd ⟨rfl, hbd⟩
  rw [HE.out]
  have R3d := hid ((hbd.block _ (row_lt R3.out)).trans R3.out)
  have R8d := hid ((hbd.block _ (row_lt R8.out)).trans R8.out)
  have R10d := hid ((hbd.block _ (row_lt R10.out)).trans R10.out)
  have R12d := hid ((hbd.block _ (row_lt X12.out)).trans X12.out)
  have Hd := hid (bb Hc.out hbd)
  have F1d := hid (bb F1.out hbd)
  have F8d := hid (bb F9.out hbd)
  clear hbd a0 a1 a2 a3 a4 a5 af b0 b1 b2 b3 b4 b5 bf c0 c1 c2 cf la lb lc hbyte hms hmi hm hlast
  obtain ⟨a0, a1, a2, a3, a4, a5, af⟩ := row6 R3d.out
  obtain ⟨c0, c1, c2, cf⟩ := row3 R8d.out
  have la := row_lt R3d.out
  have lc := row_lt R8d.out
  have q1 : (s.toList == s.toList) = true := by simp
  go_wp2_with fail
  refine (HS.out _ wd (HCd.out wd F1d.out)).mono ?_
  rintro e we ⟨J4, j4, rfl, hre, hbe⟩
  have HR1 := hid (HRl.out.below (bb F8d.out hbe))
  have HR2 := hid hre
  have R10e := hid ((hbe.block _ (row_lt R10d.out)).trans R10d.out)
  have R12e := hid ((hbe.block _ (row_lt R12d.out)).trans R12d.out)
  have He := hid (bb Hd.out hbe)
  clear hre hbe a0 a1 a2 a3 a4 a5 af c0 c1 c2 cf la lc q1
  go_wp2_with fail
  refine (c_sameTexts L _ _ _ _ _ _ we HR1.out HR2.out hlm).mono ?_
  rintro e wf ⟨rfl, hbf⟩
  have R10f := hid ((hbf.block _ (row_lt R10e.out)).trans R10e.out)
  have R12f := hid ((hbf.block _ (row_lt R12e.out)).trans R12e.out)
  have Hf := hid (bb He.out hbf)
  clear hbf
  go_wp2_with fail
  refine (HB.out wf Hf.out).mono ?_
  rintro e wg ⟨rfl, hbg⟩
  have R10g := hid ((hbg.block _ (row_lt R10f.out)).trans R10f.out)
  have R12g := hid ((hbg.block _ (row_lt R12f.out)).trans R12f.out)
  have Hg := hid (bb Hf.out hbg)
  clear hbg
  obtain ⟨b0, b1, b2, bf⟩ := row3 R10g.out
  obtain ⟨c0, c1, c2, cf⟩ := row3 R12g.out
  have lb := row_lt R10g.out
  have lc := row_lt R12g.out
  go_wp2_with fail
  go_ret
  exact ⟨rfl, Hg.out⟩
 ·go_enter Tryz.func9, Tryz.ntmps9
  go_wp2_with (go_at_call 16; refine (c_laws_big_yes d0 A c _ hq).mono ?_; rintro e w' ⟨rfl, rfl⟩)
  go_ret
  exact ⟨rfl, Below.refl _ _⟩
end Go.Proofs.YtohcpifekcehjaaGreatDoor
