/- Steps to FnCrossed. No conditions. -/
import Derived.Test.YtohcpifekcehjaaGreatDoorKfcr18
import Derived.Deep.RegionLaw
import Derived.Shelf.Lays
import Derived.Shelf.Strings.OnBuilder
import Derived.Test.YtohcpifekcehjaaGreatDoorKfcr1
import Derived.Test.YtohcpifekcehjaaGreatDoorKfcr13
import Derived.Test.YtohcpifekcehjaaGreatDoorKfcr14
set_option maxHeartbeats 16000000
set_option maxRecDepth 20000
namespace Go.Proofs.YtohcpifekcehjaaGreatDoor
open Go.RowKit Go.Lib
theorem txts_get {L : List (List UInt8)} {i : Nat} {x : List UInt8} (h : L[i]? = some x) : (txts L)[i]? = some (bs x) := by unfold txts; rw [List.getElem?_map, h]; rfl
theorem cell_block {w w' : World} {b o : Nat} (h : w'.heap[b]? = w.heap[b]?) : w'.cell? ⟨b, o, none⟩ = w.cell? ⟨b, o, none⟩ := by unfold World.cell?; simp only [h]
theorem rowS_of {base n : Nat} {w : World} {L : List (List UInt8)} {v : Value} {s : ByteArray} {x : List UInt8} (hL : n = (txts L).length) (hs : s = bs x) (h : w.ownsRow base 9 1 v (n + 1) ((txts L).map Value.string ++ [.string s])) : RowS base w (txts (L ++ [x])) (n + 1) v := by
 refine ⟨by rw [txts_len] at hL ⊢; rw [List.length_append, hL]; rfl, ?_⟩;subst hs;rw [txts_app, List.map_append];exact h
theorem blank2_next {Q : List (List UInt8)} {j : Nat} {y : List UInt8} (h : Q[j]? = some y) : blank2 (Q.take (j + 1)) = blank2 (Q.take j) ++ [[32, 32] ++ y] := by
 unfold blank2;rw [List.take_add_one, h, List.map_append];rfl
def T_wrI (n : Nat) : Prop := ∀ (d : TreeD) (cs : List Value) (w w0 : World) (lo base : Nat), C_Tree n lo base w d cs -> base <= w.heap.size -> shapeT n d = true -> sizeT n d <= 300 -> depthT n d <= 40 -> Tabs w0 -> Pow w0 -> w0.heap.size <= base -> Below w0.heap.size w0 w ->
  Calls Tryz.prog 83 #[.agg cs.toArray] w fun e w' => ∃ (A : Option Addr) (c : Nat), e = .returned (.slice A (linesT n d).length c) /\ RowS w.heap.size w' (txts (linesT n d)) (linesT n d).length (.slice A (linesT n d).length c) /\ Below w.heap.size w w'
theorem of_wrI (n : Nat) (ih : T_wrI n) : T_wrI (n + 1) := by
 intro d cs w w0 lo base h hbw hsh hsz hn40 hTab hPow hw0 hb00;have hlb := lin_ok (n + 1) d hsh (num_of h)
 have HLin := hid (fun (t : TreeD) (ht : t ∈ d.kids) => by
  obtain ⟨i, hi⟩ := List.getElem?_of_mem ht
  exact lin_ok n t (shape_kid hsh hi) ((num_of h).2 t ht))
 have HSh := hid hsh;have HDp := hid (fun (k : Nat) (t : TreeD) (ht : d.kids[k]? = some t) => show depthT n t <= 39 by have := (depth_kid (n := n) ht).2; omega);have HSk := hid (fun (k : Nat) (t : TreeD) (ht : d.kids[k]? = some t) => size_kid (n := n) ht);have HKk := hid (fun (hk : d.kids ≠ []) => kind_kids hsh hk);have HTP := hid (And.intro hTab hPow);have HB00 := hid hb00
 by_cases hk : d.kids = []
 ·have hl := linesT_leaf (n := n) hk
  have HSc := hid (fun (W : World) (hb : Below w.heap.size w W) => c_impl_ScalarText n d cs W lo ((h.old (hb.mono hbw)).keep (same_below (Below.refl _ _)) (Nat.le_refl _) (Nat.le_trans hbw hb.size)) hk hsh (hTab.below (hb00.trans (hb.mono (Nat.le_trans hw0 hbw)))) (hPow.below (hb00.trans (hb.mono (Nat.le_trans hw0 hbw)))));rw [hl];obtain ⟨A4, c4, A5, c5, rfl⟩ := C_Tree.open h;obtain ⟨s, hs⟩ : ∃ s, s = scalText d := ⟨_, rfl⟩
  rw [<- hs] at HSc ⊢;have HX := hid (show txts [s.data.toList] = [s] by unfold txts; rw [List.map_cons, bs_self]; rfl);obtain ⟨kn, hkn⟩ : ∃ kn, kn = d.kids.length := ⟨_, rfl⟩
  rw [<- hkn] at HSc ⊢;have hkn0 : kn = 0 := by rw [hkn, hk]; rfl
  subst hkn0;clear h hlb hk hl hs hkn HLin HKk HSk hsh HDp;go_enter Tryz.func83, Tryz.ntmps83
  go_wp2_with fail
  refine (HSc.out _ bel).mono ?_;rintro e w1 ⟨rfl, hb1⟩;have HB1 := hid (show Below w.heap.size w w1 from Below.trans bel (hb1.mono (by simp)));clear hb1;go_wp2_with fail
  go_ret
  exact ⟨_, _, rfl, by rw [HX.out]; exact RowS.one _ _ _ HB1.out.size, (have hb1 := HB1.out; bel)⟩
 have hl := linesT_kids (n := n) hk;have hmore := hlb.more hk;have hkd := HKk.out hk;obtain ⟨LL, hLL⟩ : ∃ LL, LL = linesT (n + 1) d := ⟨_, rfl⟩
 rw [<- hLL] at hl hmore ⊢;have HL := hid hl;have HMore := hid (show LL.length <= 299 by omega);have HPre := hid (fun (k : Nat) (hk : k <= d.kids.length) => (many_lin (g := kidLines (linesT n) d) (f := sizeT n) (l := d.kids) (m := 4806 + 2 * depthT (n + 1) d) k hk (fun i t _ ht => (kid_lin hsh ht (HLin.out t (List.mem_of_getElem? ht))).2)).1);have HDk := hid (fun (k : Nat) => Nat.le_trans (szL_take_le (sizeT n) d.kids k) (show szL (sizeT n) d.kids <= 299 by rw [sizeT_succ] at hsz; omega))
 obtain ⟨v4, v5, rfl, a0, a2, a3, a4, a5⟩ := C_Tree.out h;obtain ⟨A4, c4, rfl, hlk, hck, hK⟩ := a4;obtain ⟨A5, c5, rfl, hlc, hcc, hA⟩ := a5;clear h hlb hl hmore hLL hsh;obtain ⟨dk, df, dn, dt, dks, dkd⟩ := d;simp only at a0 a2 a3 hlk hK hlc hA HSk HKk HLin HL HPre HDk HDp hkd hk ⊢;have hpos : 0 < dkd.length := List.length_pos_iff.2 hk;have d0 : ((dkd.length : Int) == 0) = false := beq_eq_false_iff_ne.2 (by omega)
 have d0' : (dkd.length == 0) = false := beq_eq_false_iff_ne.2 (by omega);have d0i : dkd.isEmpty = false := by cases dkd with | nil => exact absurd rfl hk | cons _ _ => rfl
 obtain ⟨g, hg⟩ : ∃ g, g = kidLines (linesT n) ⟨dk, df, dn, dt, dks, dkd⟩ := ⟨_, rfl⟩
 rw [<- hg] at HL HPre;have HG := hid hg;obtain ⟨W0, hW0⟩ : ∃ W, W = w.alloc (.cells #[.int .i64 dk, .bool df, .int .i64 dn, .string dt, .slice A4 dks.length c4, .slice A5 dkd.length c5] 34) := ⟨_, rfl⟩
 have hB0 : Below w.heap.size w W0 := by rw [hW0]; exact bel
 have HR0 := hid (show W0.heap[w.heap.size]? = some (.cells #[.int .i64 dk, .bool df, .int .i64 dn, .string dt, .slice A4 dks.length c4, .slice A5 dkd.length c5] 34 (0, 0)) by rw [hW0]; exact heap_at rfl);have HW0 := hid hW0;have hz0 : w.heap.size + 1 = W0.heap.size := by rw [hW0]; simp
 have HB0 := hid hB0;clear hW0 hB0 hk hg;go_enter Tryz.func83, Tryz.ntmps83
 go_upto_region 5 with fail
 rw [<- HW0.out];obtain ⟨x0, x1, x2, x3, x4, x5, xf⟩ := row6 ((bel : Below W0.heap.size W0 (W0.alloc (.cells #[] 9))).block _ (row_lt HR0.out) |>.trans HR0.out);have l0 : w.heap.size < (W0.alloc (.cells #[] 9)).heap.size := by simp; omega
 go_wp2_with fail
 go_loopw [5, 26] (fun s5 v wr => ∃ (k N : Nat) (A : Option Addr) (c : Nat), k <= dkd.length /\ v = .int .i64 k /\ s5 = .slice A N c /\ RowS W0.heap.size wr (txts (manyL g k)) N (.slice A N c) /\ Below W0.heap.size W0 wr) (fun _ v _ => dkd.length - (Lib.intOf v).toNat)
 case atStart => exact ⟨0, 0, _, _, Nat.zero_le _, rfl, rfl, RowS.empty rfl (Nat.le_refl _), bel⟩
 case round =>
  clear x0 x1 x2 x3 x4 x5 xf l0;obtain ⟨k, N, A, c, hk, rfl, rfl, hrow, hbr⟩ := hrel;have HRow := hid hrow;have HBr := hid hbr;have HT := hid ((hbr.block _ (row_lt HR0.out)).trans HR0.out);have hNz : N <= 299 := by rw [hrow.1, txts_len]; exact Nat.le_trans (HPre.out k hk) (HDk.out k)
  have hbwr : Below w.heap.size w wr := HB0.out.trans (hbr.mono (by omega));have hsr := hbr.size;obtain ⟨x0, x1, x2, x3, x4, x5, xf⟩ := row6 HT.out;have l1 := row_lt HT.out;by_cases hlt : k < dkd.length
  rotate_left
  ·obtain rfl : k = dkd.length := by omega
   have hke : decide (dkd.length < dkd.length) = false := decide_eq_false (Nat.lt_irrefl _);have HLn := hid (show N = LL.length by rw [hrow.1, txts_len, HL.out]);have HBw := hid hbwr;clear hrow hbr hA hK hbwr;go_wp2_with fail
   go_ret
   rw [<- HLn.out, HL.out];exact ⟨A, c, rfl, HRow.out.less (by omega), HBw.out⟩
  obtain ⟨p, o, rfl, -, hbl, hcell⟩ := hA hpos;obtain ⟨t, ht⟩ := exists_at hlt;obtain ⟨es, -, hcs, hC⟩ := hcell k t ht;obtain ⟨eA4, ec4, eA5, ec5, rfl, ea0, ea2, ea3⟩ := hC.flat;have hbrb : Below base w wr := hbwr.mono hbw;have hc0 := (hbrb.cell (p := ⟨p, o + k * 6 + 0, none⟩) (by simp; omega)).trans (hcs 0 (by omega));simp at hc0;have hc1 := (hbrb.cell (p := ⟨p, o + k * 6 + 1, none⟩) (by simp; omega)).trans (hcs 1 (by omega))
  simp at hc1;have hc2 := (hbrb.cell (p := ⟨p, o + k * 6 + 2, none⟩) (by simp; omega)).trans (hcs 2 (by omega));simp at hc2;have hc3 := (hbrb.cell (p := ⟨p, o + k * 6 + 3, none⟩) (by simp; omega)).trans (hcs 3 (by omega));simp at hc3;have hc4 := (hbrb.cell (p := ⟨p, o + k * 6 + 4, none⟩) (by simp; omega)).trans (hcs 4 (by omega));simp at hc4;have hc5 := (hbrb.cell (p := ⟨p, o + k * 6 + 5, none⟩) (by simp; omega)).trans (hcs 5 (by omega))
  simp at hc5;have hbr1 : p < wr.heap.size := by omega
  have hk0 : (0 : Int) <= k := by omega
  have hk1 : (k : Int) < dkd.length := by omega
  have hltb : decide (k < dkd.length) = true := decide_eq_true hlt;have HC := hid hC;have HLt := hid (HLin.out t (List.mem_of_getElem? ht));have HSt := hid (shape_kid HSh.out ht);have hszt : sizeT n t <= 300 := by have := HSk.out k t ht; omega
  have hdt := HDp.out k t ht;have HTk := hid ht;have HBw := hid hbwr;clear hcs hcell hA hC ht hrow hbr hbwr hbrb;go_upto_region 8 with fail
  obtain ⟨wk, hwk⟩ : ∃ W, W = wr.alloc (.cells #[.int .i64 t.kind, .bool t.flag, .int .i64 t.num, .string t.text, .slice eA4 t.keys.length ec4, .slice eA5 t.kids.length ec5] 34) := ⟨_, rfl⟩
  have hbk : Below wr.heap.size wr wk := by rw [hwk]; exact bel
  have X8 : wk.heap[wr.heap.size]? = some (.cells #[.int .i64 t.kind, .bool t.flag, .int .i64 t.num, .string t.text, .slice eA4 t.keys.length ec4, .slice eA5 t.kids.length ec5] 34 (0, 0)) := by rw [hwk]; exact heap_at rfl
  rw [<- hwk];have hsk2 := hbk.size;have hbk0 : Below w.heap.size w wk := HBw.out.trans (hbk.mono HBw.out.size);have HBk := hid hbk0;have HBk1 := hid (HBr.out.trans (hbk.mono HBr.out.size));have HRk := hid (HRow.out.below hbk);have HTk2 := hid ((hbk.block _ l1).trans HT.out);have HX8 := hid X8;have HIh := hid (ih t _ wk w0 lo base (HC.out.old (hbk0.mono hbw)) (by have := hbk0.size; omega) HSt.out hszt (by omega) HTP.out.1 HTP.out.2 hw0 (HB00.out.trans (hbk0.mono (by omega))))
  have hlk8 := row_lt X8;clear hwk hbk X8 hbk0 x0 x1 x2 x3 x4 x5 xf hc0 hc1 hc2 hc3 hc4 hc5 l1;obtain ⟨y0, y1, y2, y3, y4, y5, yf⟩ := row6 HX8.out;go_wp2_with fail
  refine HIh.out.mono ?_;rintro e w9 ⟨A9, c9, rfl, h9, hb9⟩;obtain ⟨x, r, hxr⟩ := HLt.out.hd;have hlen9 := HLt.out.many;have hlong := HLt.out.long;have hleaf := HLt.out.leaf;rw [hxr] at h9 hlen9 hlong hleaf;simp only [List.length_cons] at h9 hlen9;obtain ⟨q, rfl, hq1, hq2, hq3, hq4⟩ := h9.open (Nat.succ_pos _);have hx0 : w9.cell? ⟨q, 0, none⟩ = some (.string (bs x)) := hq4 0 (bs x) rfl;have hsx : (bs x).size <= 4900 := by have := hlong x (by simp); rw [show (bs x).size = x.length from size_mk _]; omega
  have HQ4 := hid hq4;have HLong := hid hlong;have HLeaf := hid hleaf;have HXR := hid hxr;have HR9 := hid (HRk.out.below hb9);have HT9 := hid ((hb9.block _ (by omega)).trans HTk2.out);have HX9 := hid ((hb9.block _ hlk8).trans HX8.out);have HB9 := hid (HBk.out.trans (hb9.mono HBk.out.size));have HB09 := hid (HBk1.out.trans (hb9.mono HBk1.out.size));have hs9 := hb9.size
  have hoq : ∀ z, (Value.slice A N c).ownBlock = some z -> W0.heap.size <= z /\ z < wr.heap.size := fun z hz => HRow.out.lt hz
  have HOq := hid hoq;have hr1 : r.length <= 299 := by omega
  have hc91 : r.length + 1 <= c9 := hq3;rw [hxr];simp only [List.length_cons];clear h9 hb9 hq4 hlong hleaf hoq y0 y1 y2 y3 y4 y5 yf hxr;obtain ⟨x0, x1, x2, x3, x4, x5, xf⟩ := row6 HT9.out;obtain ⟨y0, y1, y2, y3, y4, y5, yf⟩ := row6 HX9.out;have lt9 := row_lt HT9.out;have lx9 := row_lt HX9.out;have hb9 := HB9.out;have hW9 : W0.heap.size <= w9.heap.size := by omega
  have hqo : (Value.slice A N c).ownBlock ≠ some q := fun e => by have := (HOq.out q e).2; omega
  go_upto_if 35 with fail
  go_cut [5, 8] from 36 to 72 (fun s5 s8 wx => ∃ (A1 : Option Addr) (c1 o M cM : Nat) (first : List UInt8) (Q : List (List UInt8)), s5 = .slice A1 (N + 1) c1 /\ s8 = .slice (some ⟨q, o, none⟩) M cM /\ M = Q.length /\ M <= 300 /\ M <= cM /\ g k = first :: blank2 Q /\ RowS W0.heap.size wx (txts (manyL g k ++ [first])) (N + 1) (.slice A1 (N + 1) c1) /\ Grb w9 (.slice A N c) wx (.slice A1 (N + 1) c1) /\ ∀ j y, Q[j]? = some y -> w9.cell? ⟨q, o + j, none⟩ = some (.string (bs y)) /\ y.length <= 4900)
  case first =>
   rcases hkd with rfl | ⟨rfl, hkl⟩
   ·obtain ⟨A1, c1, w10, hr10, h10, g10⟩ := rowS_push w9 W0.heap.size N c A _ (⟨#[45, 32]⟩ ++ bs x) HR9.out (by omega) hW9
    have hcat : (⟨#[45, 32]⟩ : ByteArray) ++ bs x = bs ([45, 32] ++ x) := (bs_cat [45, 32] x).symm;have H10 := hid (And.intro h10 g10);have HCat := hid hcat;have hsum : ((⟨#[45, 32]⟩ : ByteArray) ++ bs x).size <= 5000 := by rw [ByteArray.size_append]; show 2 + (bs x).size <= 5000; omega
    have HKi := hid (show g k = ([45, 32] ++ x) :: blank2 r by rw [HG.out]; exact kid_item (show (5 : Int) ≠ 6 by decide) HTk.out HXR.out);have hone : 1 <= r.length + 1 := by omega
    clear h10 g10 hcat
    have hfin : ∀ (o : Nat) (cM : Nat) (s5 s8 : Value) (wx : World), (o = 1 ∨ r.length = 0) -> r.length <= cM -> s5 = .slice A1 (N + 1) c1 -> s8 = .slice (some ⟨q, o, none⟩) r.length cM -> wx = w10 -> ∃ (A1 : Option Addr) (c1 o M cM : Nat) (first : List UInt8) (Q : List (List UInt8)), s5 = .slice A1 (N + 1) c1 /\ s8 = .slice (some ⟨q, o, none⟩) M cM /\ M = Q.length /\ M <= 300 /\ M <= cM /\ g k = first :: blank2 Q /\ RowS W0.heap.size wx (txts (manyL g k ++ [first])) (N + 1) (.slice A1 (N + 1) c1) /\ Grb w9 (.slice A N c) wx (.slice A1 (N + 1) c1) /\ ∀ j y, Q[j]? = some y -> w9.cell? ⟨q, o + j, none⟩ = some (.string (bs y)) /\ y.length <= 4900 := by
     rintro o cM s5 s8 wx ho hcM rfl rfl rfl;refine ⟨A1, c1, o, r.length, cM, [45, 32] ++ x, r, rfl, rfl, rfl, by omega, hcM, HKi.out, by rw [txts_app]; have h1 := H10.out.1; rw [HCat.out] at h1; exact h1, H10.out.2, fun j y hy => ⟨?_, ?_⟩⟩
     ·have hj := (List.getElem?_eq_some_iff.1 hy).1
      obtain rfl : o = 1 := by omega
      rw [show 1 + j = j + 1 by omega];exact HQ4.out (j + 1) (bs y) (txts_get (by rw [List.getElem?_cons_succ]; exact hy))
     ·have := HLong.out y (List.mem_cons_of_mem _ (List.mem_of_getElem? hy))
      omega
    have HFin := hid hfin;clear hfin;rcases Nat.lt_or_ge 1 c9 with hc9 | hc9
    ·go_wp2_with (at_builtin; refine wpList_append_of rfl (.tmp 36) (.tmp 41) 31 rfl _ _ _ w10 rfl rfl hr10 ?_)
     go_meet
     exact HFin.out 1 (c9 - 1) _ _ _ (.inl rfl) (by omega) rfl rfl rfl
    ·obtain rfl : c9 = 1 := by omega
     have HR0 := hid (show r.length = 0 by omega);clear hc9;go_wp2_with (at_builtin; refine wpList_append_of rfl (.tmp 36) (.tmp 41) 31 rfl _ _ _ w10 rfl rfl hr10 ?_)
     go_meet
     exact HFin.out 0 0 _ _ _ (.inr HR0.out) (by omega) rfl (by rw [HR0.out]) rfl
   ·obtain ⟨qk, oq, rfl, -, hql, hqc⟩ := hK (by omega)
    obtain ⟨ks, hks⟩ := exists_at (show k < dks.length by omega);obtain ⟨es, -, hcs, rfl, hss⟩ := hqc k ks hks;have hkc := (hb9.cell (p := ⟨qk, oq + k * 1 + 0, none⟩) (by simp; omega)).trans (hcs 0 (by omega));simp at hkc;have hqw : qk < w9.heap.size := by omega
    have hk2 : (k : Int) < dks.length := by have := (List.getElem?_eq_some_iff.1 hks).1; omega
    have hs4 := shape_key HSh.out hks;clear hkl;have hkb := key_big hs4;have HKs := hid hks;have HKT := hid (fun (W : World) (hb : Below w9.heap.size w9 W) => c_impl_KeyText ks W (by omega) (HTP.out.1.below (HB00.out.trans ((HB9.out.trans (hb.mono (by omega))).mono (by omega)))));obtain ⟨kt, hkt⟩ : ∃ kt, kt = keyText ks := ⟨_, rfl⟩
    rw [<- hkt] at HKT hkb;have HKt := hid hkt;obtain ⟨i0, hi, hz0', hz1, hz2⟩ := info_parts (show (Tryz.prog.info? 9).map (fun i => (i.zero, i.size, i.bytes)) = some (some (.string ⟨#[]⟩), 1, 16) from by kernel_rfl);have HI0 := hid hi;clear hcs hqc hks hkt hi hK;by_cases htk : t.kids = []
    ·have e0 : ((t.kids.length : Int) == 0) = true := by rw [htk]; rfl
     have e0' : (t.kids.length == 0) = true := by rw [htk]; rfl
     have hxl := HLeaf.out htk x (by simp);have hsx2 : (bs x).size <= 2402 := by rw [show (bs x).size = x.length from size_mk _]; exact hxl
     have HKi := hid (show g k = [(keyText ks).data.toList ++ [58, 32] ++ x] by rw [HG.out]; exact (kid_one rfl HTk.out HKs.out htk).trans (by rw [HXR.out]; rfl));have hsm1 : (kt ++ (⟨#[58, 32]⟩ : ByteArray)).size <= 2404 := by rw [ByteArray.size_append]; show kt.size + 2 <= 2404; omega
     have hsm2 : ¬ 9223372036854775807 < kt.size + 2 := by omega
     have hsm3 : ¬ 9223372036854775807 < kt.size + 2 + (bs x).size := by omega
     have hsm4 : (kt ++ (⟨#[58, 32]⟩ : ByteArray) ++ bs x).size <= 5000 := by rw [ByteArray.size_append]; omega
     have HCat := hid (show kt ++ (⟨#[58, 32]⟩ : ByteArray) ++ bs x = bs ((keyText ks).data.toList ++ [58, 32] ++ x) by rw [bs_cat, bs_cat, bs_self, HKt.out]; rfl);clear htk hxl;go_upto_region 13 with fail
     go_cut [5] from 36 to 72 (fun s5 wx => ∃ (g2 cap2 : Nat), s5 = .slice (some ⟨g2, 0, none⟩) (N + 1) cap2 /\ RowS W0.heap.size wx (txts (manyL g (k + 1))) (N + 1) (.slice (some ⟨g2, 0, none⟩) (N + 1) cap2) /\ Grb w9 (.slice A N c) wx (.slice (some ⟨g2, 0, none⟩) (N + 1) cap2))
     case first =>
      go_region_law (first | (refine step_append_lies _ rfl _ _ 31 rfl W0.heap.size 9 i0 (.string ⟨#[]⟩) 1 16 Tryz.underlying31 HI0.out hz0' hz1 hz2 rfl (by decide) _ N ((txts (manyL g k)).map Value.string) rfl ((HR9.out.below hb4).below (bel : Below w4.heap.size w4 _)).2 ⟨w4.heap.size, 0, none⟩ 1 1 [.string (kt ++ (⟨#[58, 32]⟩ : ByteArray) ++ bs x)] rfl rfl (World.news_of_block (heap_alloc_new w4 _)) (fun u hu => by rcases List.mem_singleton.1 hu with rfl; rfl) (by decide) (by unfold maxLen; omega) (by omega) (by simp; omega) _ rfl ?_; intro g2 cap2 w2 hown2 hgrow2 hat2 hlt2) | (go_simp; go_at_call 157; refine (HKT.out _ bel).mono ?_; rintro e4 w4 ⟨rfl, hb4d⟩; have hb4 : Below w9.heap.size w9 w4 := bel; have hx4 := (hb4.cell (p := ⟨q, 0, none⟩) hq2).trans hx0; have hs4b := hb4.size))
      all_goals
       have hg3 : Grb (w4.alloc (.cells #[.string (kt ++ (⟨#[58, 32]⟩ : ByteArray) ++ bs x)] 9)) (.slice A N c) w2 (.slice (some ⟨g2, 0, none⟩) (N + 1) cap2) := Grb.of_at hgrow2 (hat2.elim (fun h => .inl h.symm) (fun h => .inr (congrArg some h)));have hg2 := ((Grb.of (.slice A N c) hb4).trans (Grb.of _ (bel : Below w4.heap.size w4 (w4.alloc (.cells #[.string (kt ++ (⟨#[58, 32]⟩ : ByteArray) ++ bs x)] 9))))).trans hg3
       have HRw2 := hid (show RowS W0.heap.size w2 (txts (manyL g (k + 1))) (N + 1) _ by rw [manyL_next, HKi.out]; exact rowS_of HR9.out.1 HCat.out hown2)
       (try go_wp2_with fail)
       go_meet
       exact ⟨g2, cap2, rfl, HRw2.out, hg2⟩
     case rest =>
      obtain ⟨g2, cap2, rfl, hrw2, hg2⟩ := hcut;have HRw2 := hid hrw2;have HBw2 := hid (HB09.out.trans ((hg2.below HR9.out.2 hW9).mono (Nat.le_refl _)));clear hrw2 hg2 x0 x1 x2 x3 x4 x5 xf y0 y1 y2 y3 y4 y5 yf hx0 hkc hb9 e0 e0' hsm1 hsm2 hsm3 hsm4;go_wp2_with fail
      go_roundw
      case rel => exact ⟨k + 1, N + 1, _, _, by omega, by go_num, rfl, HRw2.out, HBw2.out⟩
      case measure => simp [Lib.intOf]; omega
    ·have e0 : ((t.kids.length : Int) == 0) = false := beq_eq_false_iff_ne.2 (by have := List.length_pos_iff.2 htk; omega)
     have e0' : (t.kids.length == 0) = false := beq_eq_false_iff_ne.2 (by have := List.length_pos_iff.2 htk; omega);have HKi := hid (show g k = ((keyText ks).data.toList ++ [58]) :: blank2 (x :: r) by rw [HG.out]; exact (kid_more rfl HTk.out HKs.out htk).trans (by rw [HXR.out]));have hsm1 : (kt ++ (⟨#[58]⟩ : ByteArray)).size <= 2403 := by rw [ByteArray.size_append]; show kt.size + 1 <= 2403; omega
     have hsm2 : ¬ 9223372036854775807 < kt.size + 1 := by omega
     have HCat := hid (show kt ++ (⟨#[58]⟩ : ByteArray) = bs ((keyText ks).data.toList ++ [58]) by rw [bs_cat, bs_self, HKt.out]; rfl);clear htk;go_wp2_with fail
     refine (HKT.out w9 (Below.refl _ _)).mono ?_;rintro e w4 ⟨rfl, hb4⟩;have hs4b := hb4.size;obtain ⟨A1, c1, w10, hr10, h10, g10⟩ := rowS_push w4 W0.heap.size N c A _ (kt ++ (⟨#[58]⟩ : ByteArray)) (HR9.out.below hb4) (by omega) (by omega);rw [HCat.out] at h10;have HRw2 := hid (show RowS W0.heap.size w10 (txts (manyL g k ++ [(keyText ks).data.toList ++ [58]])) (N + 1) (.slice A1 (N + 1) c1) by rw [txts_app]; exact h10)
     have HG2 := hid ((Grb.of (.slice A N c) hb4).trans g10);clear h10 g10 hb4;go_wp2_with (at_builtin; refine wpList_append_of rfl (.tmp 63) (.tmp 71) 31 rfl _ _ _ w10 rfl rfl hr10 ?_)
     go_meet
     exact ⟨A1, c1, 0, r.length + 1, c9, _, x :: r, rfl, rfl, rfl, by omega, hc91, HKi.out, HRw2.out, HG2.out, fun j y hy => ⟨by rw [Nat.zero_add]; exact HQ4.out j (bs y) (txts_get hy), by have := HLong.out y (List.mem_of_getElem? hy); omega⟩⟩
  case rest =>
   obtain ⟨A1, c1, o, M, cM, first, Q, rfl, rfl, hM, hM3, hMc, hgk, hrow1, hg1, hcl⟩ := hcut;have HR1 := hid hrow1;have HG1 := hid hg1;have HCl := hid hcl;have HGk := hid hgk;have HM := hid hM;clear hrow1 hg1 hcl hgk hM x0 x1 x2 x3 x4 x5 xf y0 y1 y2 y3 y4 y5 yf hx0;go_wp2_with fail
   go_loopw [5, 75] (fun s5 v wx => ∃ (j N2 : Nat) (A2 : Option Addr) (c2 : Nat), j <= M /\ v = .int .i64 j /\ s5 = .slice A2 N2 c2 /\ N2 = N + 1 + j /\ RowS W0.heap.size wx (txts (manyL g k ++ (first :: blank2 (Q.take j)))) N2 (.slice A2 N2 c2) /\ Grb w9 (.slice A N c) wx (.slice A2 N2 c2)) (fun _ v _ => M - (Lib.intOf v).toNat)
   case atStart => exact ⟨0, N + 1, A1, c1, Nat.zero_le _, rfl, rfl, rfl, HR1.out, HG1.out⟩
   case round =>
    obtain ⟨j, N2, A2, c2, hj, rfl, rfl, hN2, hrw, hgr⟩ := hrel;have HRw := hid hrw;have HGr := hid hgr;have hsz2 := hgr.grown.size;have hWr : W0.heap.size <= wr.heap.size := by omega
    have HN2 := hid hN2;have hN2b : N2 <= 700 := by omega
    clear hrw hgr hN2;by_cases hlt2 : j < M
    ·obtain ⟨y, hy⟩ := exists_at (show j < Q.length by have := HM.out; omega)
     obtain ⟨hcy, hyl⟩ := HCl.out j y hy;have hcy2 := (cell_block (o := o + j) (HGr.out.keep hq2 hqo)).trans hcy;have hj0 : (0 : Int) <= j := by omega
     have hj1 : (j : Int) < M := by omega
     have hltb2 : decide (j < M) = true := decide_eq_true hlt2;have hqw : q < wr.heap.size := by omega
     have hbz : (bs y).size <= 4900 := by rw [show (bs y).size = y.length from size_mk _]; exact hyl
     have hsum : ((⟨#[32, 32]⟩ : ByteArray) ++ bs y).size <= 5000 := by rw [ByteArray.size_append]; show 2 + (bs y).size <= 5000; omega
     obtain ⟨A3, c3, w3, hr3, h3, g3⟩ := rowS_push wr W0.heap.size N2 c2 A2 _ (⟨#[32, 32]⟩ ++ bs y) HRw.out (by omega) hWr
     have H3 := hid (show RowS W0.heap.size w3 (txts (manyL g k ++ (first :: blank2 (Q.take (j + 1))))) (N2 + 1) (.slice A3 (N2 + 1) c3) by
      have e : manyL g k ++ (first :: blank2 (Q.take (j + 1))) = (manyL g k ++ (first :: blank2 (Q.take j))) ++ [[32, 32] ++ y] := by rw [blank2_next hy]; simp
      rw [e, txts_app];have e2 : (⟨#[32, 32]⟩ : ByteArray) ++ bs y = bs ([32, 32] ++ y) := (bs_cat [32, 32] y).symm;rw [e2] at h3
      exact h3)
     have HG3 := hid (HGr.out.trans g3);clear h3 g3 hcy hy;go_wp2_with (at_builtin; refine wpList_append_of rfl (.tmp 79) (.tmp 82) 31 rfl _ _ _ w3 rfl rfl hr3 ?_)
     go_roundw
     case rel => exact ⟨j + 1, N2 + 1, A3, c3, by omega, by go_num, rfl, by have := HN2.out; omega, H3.out, HG3.out⟩
     case measure => simp [Lib.intOf]; omega
    ·obtain rfl : j = M := by omega
     have hke : decide (j < j) = false := decide_eq_false (Nat.lt_irrefl _)
     have HRf := hid (show RowS W0.heap.size wr (txts (manyL g (k + 1))) N2 (.slice A2 N2 c2) by
      have h1 := HRw.out;rw [List.take_of_length_le (Nat.le_of_eq HM.out.symm), <- HGk.out] at h1
      exact h1)
     have HBf := hid (HB09.out.trans ((HGr.out.below HR9.out.2 hW9).mono (Nat.le_refl _)));go_wp2_with fail
     go_roundw
     case rel => exact ⟨k + 1, N2, A2, c2, by omega, by go_num, rfl, HRf.out, HBf.out⟩
     case measure => simp [Lib.intOf]; omega
theorem all_wrI : ∀ n, T_wrI n
 | 0 => fun _ _ _ _ _ _ h _ _ _ _ _ _ _ _ => (C_Tree.none h).elim
 | n + 1 => of_wrI n (all_wrI n)
open Go.Shelf
def laysJoin_ren : Go.Shelf.Ren := ⟨fun | 156 => 82 | 165 => 153 | 166 => 154 | 169 => 155 | 240 => 216 | 241 => 217 | 276 => 253 | 277 => 254 | n => n, fun | 31 => 31 | 9 => 9 | 3 => 3 | 4 => 4 | 0 => 0 | 20 => 20 | 72 => 139 | 76 => 142 | 70 => 137 | 37 => 28 | 75 => 141 | 127 => 175 | 164 => 198 | 5 => 5 | 80 => 144 | n => n, fun | n => n⟩
theorem laysJoin : Go.Proofs.Lays.n156 Tryz.prog laysJoin_ren := {
 mixed := by kernel_rfl
 f156 := Tryz.func82.trans (congrArg some (by kernel_rfl))
 f165 := Tryz.func153.trans (congrArg some (by kernel_rfl))
 f166 := Tryz.func154.trans (congrArg some (by kernel_rfl))
 f169 := Tryz.func155.trans (congrArg some (by kernel_rfl))
 f240 := Tryz.func216.trans (congrArg some (by kernel_rfl))
 f241 := Tryz.func217.trans (congrArg some (by kernel_rfl))
 f276 := Tryz.func253.trans (congrArg some (by kernel_rfl))
 f277 := Tryz.func254.trans (congrArg some (by kernel_rfl))
 t0 := Tryz.underlying0
 a0 := Tryz.isAgg0
 z0 := Tryz.sizeOf0
 v0 := Tryz.zeroValue0
 t3 := Tryz.underlying3
 a3 := Tryz.isAgg3
 z3 := Tryz.sizeOf3
 v3 := Tryz.zeroValue3
 t4 := Tryz.underlying4
 a4 := Tryz.isAgg4
 z4 := Tryz.sizeOf4
 v4 := Tryz.zeroValue4
 t9 := Tryz.underlying9
 a9 := Tryz.isAgg9
 z9 := Tryz.sizeOf9
 v9 := Tryz.zeroValue9
 t20 := Tryz.underlying20
 a20 := Tryz.isAgg20
 z20 := Tryz.sizeOf20
 v20 := Tryz.zeroValue20
 t31 := Tryz.underlying31
 a31 := Tryz.isAgg31
 z31 := Tryz.sizeOf31
 v31 := Tryz.zeroValue31
 t37 := Tryz.underlying28
 a37 := Tryz.isAgg28
 z37 := Tryz.sizeOf28
 v37 := Tryz.zeroValue28
 t70 := Tryz.underlying137
 a70 := Tryz.isAgg137
 z70 := Tryz.sizeOf137
 v70 := Tryz.zeroValue137
 t72 := Tryz.underlying139
 a72 := Tryz.isAgg139
 z72 := Tryz.sizeOf139
 v72 := Tryz.zeroValue139
 t75 := Tryz.underlying141
 a75 := Tryz.isAgg141
 z75 := Tryz.sizeOf141
 v75 := Tryz.zeroValue141
 t76 := Tryz.underlying142
 a76 := Tryz.isAgg142
 z76 := Tryz.sizeOf142
 v76 := Tryz.zeroValue142
 t127 := Tryz.underlying175
 a127 := Tryz.isAgg175
 z127 := Tryz.sizeOf175
 v127 := Tryz.zeroValue175
 t164 := Tryz.underlying198
 a164 := Tryz.isAgg198
 z164 := Tryz.sizeOf198
 v164 := Tryz.zeroValue198 }
theorem textL_len {m : Nat} : ∀ (L : List (List UInt8)), (∀ x ∈ L, x.length <= m) -> (textL L).length <= (m + 1) * L.length
 | [], _ => Nat.zero_le _
 | x :: L, h => by
  have h1 := textL_len L (fun y hy => h y (by simp [hy]));have h2 := h x (by simp);have e : textL (x :: L) = x ++ [10] ++ textL L := by unfold textL; simp
  rw [e];simp only [List.length_append, List.length_cons, List.length_nil, Nat.mul_add];omega
theorem okT_dep {n : Nat} {d : TreeD} (h : okT n d = true) : depthT n d <= 8 := by
 unfold okT at h;simp only [Bool.and_eq_true] at h;exact of_decide_eq_true h.1.1
theorem txts_list (L : List (List UInt8)) : (txts L).map (·.data.toList) = L := by
 unfold txts;rw [List.map_map];exact (List.map_congr_left (fun x _ => (show (bs x).data.toList = x by unfold bs; simp))).trans (List.map_id _)
theorem join_text : ∀ (x : List UInt8) (r : List (List UInt8)), Lib.join (x :: r) [10] ++ [10] = textL (x :: r) := by
 intro x r;rw [Lib.join_cons]
 have h : ∀ r : List (List UInt8), Lib.joinTail [10] r ++ [10] = [10] ++ textL r := by
  intro r;induction r with
  | nil => rfl
  | cons y r ih =>
   have e1 : Lib.joinTail [10] (y :: r) = [10] ++ y ++ Lib.joinTail [10] r := by unfold Lib.joinTail; simp
   have e2 : textL (y :: r) = y ++ [10] ++ textL r := by unfold textL; simp
   rw [e1, e2, List.append_assoc, ih];simp
 have e2 : textL (x :: r) = x ++ [10] ++ textL r := by unfold textL; simp
 rw [e2, List.append_assoc, h r, List.append_assoc]
theorem joinX : Builder.Extra Tryz.prog laysJoin_ren where
 sizeBuilder := by kernel_rfl
 liesBuilder := by kernel_rfl
 t5 := Tryz.underlying5
 a5 := Tryz.isAgg5
 z5 := Tryz.sizeOf5
 v5 := Tryz.zeroValue5
 infoByte := by kernel_rfl
 cellsByte := by kernel_rfl
 sizeByte := by kernel_rfl
 neB5 := by decide
theorem c_impl_IndentedText (n : Nat) (d : TreeD) (cs : List Value) (w : World) (lo : Nat) (h : C_Tree n lo w.heap.size w d cs) (hz : sizeT n d <= 1073741824) (hT : Tabs w) (hP : Pow w) :
  Calls Tryz.prog 41 #[.agg cs.toArray] w fun e w' => e = .returned (.string (indB n d)) /\ Below w.heap.size w w' := by
 have HK := hid (fun (W : World) (hb : Below w.heap.size w W) => c_impl_TreeOk n d cs W lo (h.now hb) hz (hT.below hb));have HF := hid (show indB n d = if okT n d = true then (if 20000 < (textL (linesT n d)).length then ⟨#[]⟩ else bs (textL (linesT n d))) else ⟨#[]⟩ from rfl);by_cases hok : okT n d = true
 ·obtain ⟨h3, hsh⟩ := okT_parts hok
  have hlb := lin_ok n d hsh (num_of h);have hlen := Nat.le_trans hlb.many h3;have hlong : ∀ x ∈ linesT n d, x.length <= 4886 := fun x hx => by have := hlb.long x hx; have := okT_dep hok; omega
  obtain ⟨x0, r0, hxr⟩ := hlb.hd;have HS := hid (fun (W : World) (hb : Below w.heap.size w W) => all_wrI n d cs W w lo w.heap.size (h.old hb) hb.size hsh h3 (Nat.le_trans (okT_dep hok) (by decide)) hT hP (Nat.le_refl _) hb);obtain ⟨L, hL⟩ : ∃ L, L = linesT n d := ⟨_, rfl⟩
  rw [<- hL] at HS HF hlen hlong hxr;obtain ⟨b, hb⟩ : ∃ b, b = indB n d := ⟨_, rfl⟩
  rw [<- hb] at HF ⊢;rw [hok] at HK HF;have htl := textL_len L hlong;have hjt : Lib.join L [10] ++ [10] = textL L := by rw [hxr]; exact join_text _ _
  obtain ⟨j, hj⟩ : ∃ j, j = Lib.join L [10] := ⟨_, rfl⟩
  rw [<- hj] at hjt;have hjl : j.length + 1 = (textL L).length := by rw [<- hjt, List.length_append]; rfl
  have HJ := hid hj;obtain ⟨js, hjs⟩ : ∃ js : ByteArray, js = ⟨j.toArray⟩ := ⟨_, rfl⟩
  have hjz : js.size = j.length := by rw [hjs]; show j.toArray.size = j.length; simp
  have HJs := hid hjs;have hLp : 0 < L.length := by rw [hxr]; exact Nat.succ_pos _
  have hjb : js.size + 1 <= 2000000 := by
   have h5 : (4886 + 1) * L.length <= (4886 + 1) * 300 := Nat.mul_le_mul_left _ hlen;omega
  have HTx := hid (show js ++ (⟨#[10]⟩ : ByteArray) = bs (textL L) by rw [<- hjt, bs_cat, hjs]; rfl);have HTl := hid (show js.size + 1 = (textL L).length by omega);obtain ⟨A4, c4, A5, c5, rfl⟩ := C_Tree.open h;clear h hok hL hb hz hsh h3 hT hP hlb hxr htl hjt hj hjl hjs hjz
  have hfin : ∀ (q c9 : Nat) (w9 : World), q < w9.heap.size -> L.length <= c9 -> (∀ i s, (txts L)[i]? = some s -> w9.cell? ⟨q, i, none⟩ = some (.string s)) -> Calls Tryz.prog 82 #[.slice (some ⟨q, 0, none⟩) L.length c9, .string ⟨#[10]⟩] w9 fun e w' => e = .returned (.string js) /\ Below w9.heap.size w9 w' := fun q c9 w9 h1 h2 h3 => by
   have hl := txts_len L;have hm := txts_list L;have e0 : (⟨#[10]⟩ : ByteArray).data.toList = [10] := rfl
   have := Any.strings_Join laysJoin joinX q 0 c9 (txts L) ⟨#[10]⟩ w9 (fun j x hx => by rw [Nat.zero_add]; exact h3 j x hx) h1 (by rw [hl]; omega) (by rw [hl]; exact h2) (by
    rw [hm, e0, <- HJ.out];have : j.length = js.size := by rw [HJs.out]; show _ = j.toArray.size; simp
    omega)
   rw [hl, hm, e0, <- HJ.out, <- HJs.out] at this;exact this
  have HFin := hid hfin;clear hfin;by_cases hlg : 20000 < (textL L).length
  focus
   have HX := hid (show b = ⟨#[]⟩ by rw [HF.out, if_pos rfl, if_pos hlg]);have hzz := HTl.out;have dl : decide ((20000 : Int) < (js.size : Int) + 1) = true := decide_eq_true (by omega);have dl2 : decide (20000 < js.size + 1) = true := decide_eq_true (by omega);have dl3 : (20000 : Int) < (js.size : Int) + 1 := by omega
  rotate_left
  focus
   have HX := hid (show b = js ++ (⟨#[10]⟩ : ByteArray) by rw [HF.out, if_pos rfl, if_neg hlg, HTx.out]);have hzz := HTl.out;have dl : decide ((20000 : Int) < (js.size : Int) + 1) = false := decide_eq_false (by omega);have dl2 : decide (20000 < js.size + 1) = false := decide_eq_false (by omega)
  rotate_left
  all_goals
   clear hlg hzz;go_enter Tryz.func41, Tryz.ntmps41
   go_upto_region 3 with (go_at_call 81; refine (HK.out _ bel).mono ?_; rintro e w1 ⟨rfl, hb⟩; (first | (have hcu2 := Cum.join hcu hb; (try clear hcu); (try clear hc); (try clear hfz); (try clear hsz); (try clear hs0); (try clear hs1); (try clear hs2); (try clear hs3); (try clear hs4); ) | have hcu2 := Cum.mk hb); have hcu := hcu2; clear hcu2; obtain ⟨hc, hfz⟩ := bcell hcu.h; have hsz := hcu.h.size; (try simp at hsz); (try have hs0 := lt_of_succ_le hsz); (try (have hs1 := lt_pred hsz; (try (have hs2 := lt_pred hs1; (try (have hs3 := lt_pred hs2; (try have hs4 := lt_pred hs3))))))))
   go_wp2_with fail
   refine (HS.out _ bel).mono ?_;rintro e w9 ⟨A, c, rfl, hr, hb9⟩;obtain ⟨q, rfl, hq1, hq2, hq3, hq4⟩ := hr.open hLp;have hw1 : Below w.heap.size w w1 := bel;have hsw := hw1.size;have HB := hid (hw1.trans (hb9.mono hsw));have HC := hid (HFin.out q c w9 hq2 hq3 hq4);clear hr hb9 hq4;go_wp2_with fail
   refine HC.out.mono ?_;rintro e w10 ⟨rfl, hb10⟩;have HB2 := hid (HB.out.trans (hb10.mono HB.out.size));clear hb10;go_wp2_with fail
   go_ret
   exact ⟨by rw [HX.out]; rfl, HB2.out⟩
 ·rw [Bool.not_eq_true] at hok
  obtain ⟨A4, c4, A5, c5, rfl⟩ := C_Tree.open h;have HX := hid (show indB n d = ⟨#[]⟩ by rw [HF.out, if_neg (by rw [hok]; decide)]);rw [hok] at HK;clear h hok HF hz hT hP;go_enter Tryz.func41, Tryz.ntmps41
  go_wp2_with (go_at_call 81; refine (HK.out _ bel).mono ?_; rintro e w1 ⟨rfl, hb⟩; (first | (have hcu2 := Cum.join hcu hb; (try clear hcu); (try clear hc); (try clear hfz); (try clear hsz); (try clear hs0); (try clear hs1); (try clear hs2); (try clear hs3); (try clear hs4); ) | have hcu2 := Cum.mk hb); have hcu := hcu2; clear hcu2; obtain ⟨hc, hfz⟩ := bcell hcu.h; have hsz := hcu.h.size; (try simp at hsz); (try have hs0 := lt_of_succ_le hsz); (try (have hs1 := lt_pred hsz; (try (have hs2 := lt_pred hs1; (try (have hs3 := lt_pred hs2; (try have hs4 := lt_pred hs3))))))))
  go_ret
  exact ⟨by rw [HX.out]; rfl, bel⟩
structure FourC (w : World) : Prop where
 four : Four w
 max : MaxL w
theorem FourC.below {w w' : World} (h : FourC w) (hb : Below w.heap.size w w') : FourC w' := ⟨h.four.below hb, h.max.below hb⟩
theorem TenI.cross {d : TreeD} (h : TenI d) : crN (tin d) = (txt d, flt0) := by
 unfold crN;rw [h.read];simp only;rw [if_pos (show flt0.code = 0 from rfl), h.ten.braced]
theorem TenI.callX {d : TreeD} (h : TenI d) {w : World} (hC : FourC w) (W : World) (hb : Below w.heap.size w W) : Calls Tryz.prog 12 #[.string (tin d)] W fun e w' => e = .returned (.tuple #[.string (txt d), .agg (fltC flt0)]) /\ Below W.heap.size W w' := by
 have hC := hC.below hb;have := c_impl_Crossed (tin d) W (by have := h.size; omega) hC.four.pow hC.four.err hC.four.tab hC.four.cas hC.max;rw [h.cross] at this;exact this
theorem TenI.callI {d : TreeD} (h : TenI d) {w : World} (hC : FourC w) (cs : List Value) (W : World) (hb : Below w.heap.size w W) (hd : C_Tree 10 0 W.heap.size W d cs) : Calls Tryz.prog 41 #[.agg cs.toArray] W fun e w' => e = .returned (.string (tin d)) /\ Below W.heap.size W w' := by
 have hC := hC.below hb;have := c_impl_IndentedText 10 d cs W 0 hd (Nat.le_trans h.ten.size (by decide)) hC.four.tab hC.four.pow;rw [h.text] at this;exact this
theorem Ten.callS {d : TreeD} (h : Ten d) (cs : List Value) (W : World) (hd : C_Tree 10 0 W.heap.size W d cs) : Calls Tryz.prog 45 #[.agg cs.toArray] W fun e w' => e = .returned (.string (txt d)) /\ Below W.heap.size W w' := by
 have := c_spec_BracedText 10 d cs W 0 hd (Nat.le_trans h.size (by decide));rw [h.braced] at this;exact this
theorem w_FnCrossed (d0 : List UInt8) (v0 : Value) (w : World) (h0 : R_bytes w d0 v0) (hP : Pow w) (hE : ErrR w) (hT : Tabs w) (hV : CTab w) (hM : MaxL w) :
  Calls Tryz.prog 10 #[v0] w fun e w' => e = .returned (.bool true) /\ Below w.heap.size w w' := by
 have H0 := hid h0;obtain ⟨A, c, rfl, -⟩ := h0;have HC := hid (FourC.mk (Four.mk hP hE hT hV) hM);clear hP hE hT hV hM;by_cases hq : d0.length <= 1048576
 ·go_enter Tryz.func10, Tryz.ntmps10
  go_wp2_with (go_at_call 16; refine (c_laws_big_no d0 A c _ hq).mono ?_; rintro e w' ⟨rfl, rfl⟩)
  refine (c_DrawTree d0 _ 0 _ H0.out hq).mono ?_;rintro e w1 ⟨d, cs, rfl, hD, hO, hb1⟩;have hten := hD.tenI;have hO10 := hO.up (m := 10) (by decide);obtain ⟨C4, e4, C5, e5, rfl, -⟩ := hO10.flat;have HR := hid (hten.ten.callR HC.out.four);have HX := hid (hten.callX HC.out);have HCd := hid (fun (W : World) (h : Below w1.heap.size w1 W) => (hO10.toC (lo := 0) (hi := w1.heap.size) (fun b hb => ⟨Nat.zero_le _, hb.2⟩)).now h)
  have HT := hid (hten.callI HC.out);have HS := hid hten.ten.callS;have HE := hid (eqTr_refl 10 d hten.ten.shape);obtain ⟨s, hs⟩ : ∃ s, s = tin d := ⟨_, rfl⟩
  rw [<- hs] at HX HT;obtain ⟨y, hy⟩ : ∃ y, y = txt d := ⟨_, rfl⟩
  rw [<- hy] at HX HR HS;have q1 : (y.toList == y.toList) = true := by simp
  have e0 : fltC flt0 = #[.int .i64 0, .int .i64 0, .string ⟨#[]⟩] := rfl;have HF := hid e0;have B1 := hid hb1;clear hs hy hten hD hO hO10 hb1 e0;go_wp2_with fail
  obtain ⟨w2, hw2⟩ : ∃ W, W = w1.alloc (.cells #[.int .i64 d.kind, .bool d.flag, .int .i64 d.num, .string d.text, .slice C4 d.keys.length e4, .slice C5 d.kids.length e5] 34) := ⟨_, rfl⟩
  have B2 : Hid (Below w1.heap.size w1 w2) := hid (by rw [hw2]; exact bel);have X3 : Hid (w2.heap[w1.heap.size]? = some (.cells #[.int .i64 d.kind, .bool d.flag, .int .i64 d.num, .string d.text, .slice C4 d.keys.length e4, .slice C5 d.kids.length e5] 34 (0, 0))) := hid (by rw [hw2]; exact heap_at rfl);rw [<- hw2];clear hw2;have H2 := hid (bb B1.out B2.out);refine (HT.out _ w2 H2.out (HCd.out w2 B2.out)).mono ?_
  rintro e w3 ⟨rfl, hb3⟩;have B3 := hid hb3;have H3 := hid (bb H2.out hb3);clear hb3;go_wp2_with fail
  refine (HX.out w3 H3.out).mono ?_;rintro e w4 ⟨rfl, hb4⟩;simp only [HF.out];have B4 := hid hb4;have H4 := hid (bb H3.out hb4);clear hb4;go_wp2_with fail
  obtain ⟨w5, hw5⟩ : ∃ W, W = w4.alloc (.cells #[.int .i64 0, .int .i64 0, .string ⟨#[]⟩] 23) := ⟨_, rfl⟩
  have B5 : Hid (Below w4.heap.size w4 w5) := hid (by rw [hw5]; exact bel);have X5 : Hid (w5.heap[w4.heap.size]? = some (.cells #[.int .i64 0, .int .i64 0, .string ⟨#[]⟩] 23 (0, 0))) := hid (by rw [hw5]; exact heap_at (by simp));rw [<- hw5];clear hw5;have H5 := hid (bb H4.out B5.out);refine (HR.out w5 H5.out).mono ?_;rintro e w6 ⟨cs6, rfl, hO6, hb6⟩;obtain ⟨D4, f4, D5, f5, rfl, -⟩ := hO6.flat
  have HCb := hid (fun (W : World) (h : Below w6.heap.size w6 W) => (hO6.toC (lo := 0) (hi := w6.heap.size) (fun b hb => ⟨Nat.zero_le _, hb.2⟩)).now h);simp only [HF.out];have B6 := hid hb6;have H6 := hid (bb H5.out hb6);clear hb6 hO6;go_upto_region 6 with fail
  obtain ⟨w7, hw7⟩ : ∃ W, W = (w6.alloc (.cells #[.int .i64 d.kind, .bool d.flag, .int .i64 d.num, .string d.text, .slice D4 d.keys.length f4, .slice D5 d.kids.length f5] 34)).alloc (.cells #[.int .i64 0, .int .i64 0, .string ⟨#[]⟩] 23) := ⟨_, rfl⟩
  have B7 : Hid (Below w6.heap.size w6 w7) := hid (by rw [hw7]; exact bel);have X7 : Hid (w7.heap[w6.heap.size]? = some (.cells #[.int .i64 d.kind, .bool d.flag, .int .i64 d.num, .string d.text, .slice D4 d.keys.length f4, .slice D5 d.kids.length f5] 34 (0, 0))) := hid (by rw [hw7]; exact (Below.heap_alloc _ _ _ (by simp)).trans (heap_at rfl));have X8 : Hid (w7.heap[w6.heap.size + 1]? = some (.cells #[.int .i64 0, .int .i64 0, .string ⟨#[]⟩] 23 (0, 0))) := hid (by rw [hw7]; exact heap_at (by simp))
  rw [<- hw7];clear hw7;have H7 := hid (bb H6.out B7.out);have G5 := hid (bb B6.out B7.out);have G2 := hid (bb (bb (bb B3.out B4.out) B5.out) G5.out);have G1 := hid (bb B2.out G2.out);have R3 := hid ((G2.out.block _ (row_lt X3.out)).trans X3.out);have R5 := hid ((G5.out.block _ (row_lt X5.out)).trans X5.out);obtain ⟨a0, a1, a2, a3, a4, a5, af⟩ := row6 R3.out;obtain ⟨b0, b1, b2, b3, b4, b5, bf⟩ := row6 X7.out
  obtain ⟨c0, c1, c2, cf⟩ := row3 R5.out;obtain ⟨p0, p1, p2, pf⟩ := row3 X8.out;have la := row_lt R3.out;have lb := row_lt X7.out;have lc := row_lt R5.out;have lp := row_lt X8.out;go_wp2_with fail
  refine (all_sameS 10 d d _ _ w7 0 0 (HCb.out w7 B7.out) (HCd.out w7 G1.out)).mono ?_;rintro e wc ⟨rfl, hbc⟩;rw [HE.out];have R3c := hid ((hbc.block _ (row_lt R3.out)).trans R3.out);have Hc := hid (bb H7.out hbc);have G1c := hid (bb G1.out hbc);clear hbc a0 a1 a2 a3 a4 a5 af b0 b1 b2 b3 b4 b5 bf c0 c1 c2 cf p0 p1 p2 pf la lb lc lp;obtain ⟨a0, a1, a2, a3, a4, a5, af⟩ := row6 R3c.out;have la := row_lt R3c.out
  go_wp2_with fail
  refine (HS.out _ wc (HCd.out wc G1c.out)).mono ?_;rintro e wd ⟨rfl, hbd⟩;have Hd := hid (bb Hc.out hbd);clear hbd;go_wp2_with fail
  go_ret
  exact ⟨rfl, Hd.out⟩
 ·go_enter Tryz.func10, Tryz.ntmps10
  go_wp2_with (go_at_call 16; refine (c_laws_big_yes d0 A c _ hq).mono ?_; rintro e w' ⟨rfl, rfl⟩)
  go_ret
  exact ⟨rfl, Below.refl _ _⟩
end Go.Proofs.YtohcpifekcehjaaGreatDoor
