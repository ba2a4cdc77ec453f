/- Steps to FnIndentedNormal. No conditions. -/
import Derived.Test.YtohcpifekcehjaaGreatDoorKfni17
import Derived.Deep.RegionLaw
import Derived.Shelf.Lays
import Derived.Shelf.Strings.OnBuilder
import Derived.Test.YtohcpifekcehjaaGreatDoorKfni1
import Derived.Test.YtohcpifekcehjaaGreatDoorKfni5
import Derived.Test.YtohcpifekcehjaaGreatDoorKfni7
set_option maxHeartbeats 16000000
set_option maxRecDepth 20000
namespace Go.Proofs.YtohcpifekcehjaaGreatDoor
open Go.RowKit Go.Lib
theorem Xc {L : List (List UInt8)} {i : Nat} {x : List UInt8} (h : L[i]? = some x) : (Q5 L)[i]? = some (bs x) := by unfold Q5; rw [List.getElem?_map, h]; rfl
theorem JbV {w w' : World} {b o : Nat} (h : w'.heap[b]? = w.heap[b]?) : w'.cell? ⟨b, o, none⟩ = w.cell? ⟨b, o, none⟩ := by unfold World.cell?; simp only [h]
theorem Jhh {base n : Nat} {w : World} {L : List (List UInt8)} {v : Value} {s : ByteArray} {x : List UInt8} (hL : n = (Q5 L).length) (hs : s = bs x) (h : w.ownsRow base 9 1 v (n + 1) ((Q5 L).map Value.string ++ [.string s])) : RowS base w (Q5 (L ++ [x])) (n + 1) v := by
 refine ⟨by rw [ZM] at hL ⊢; rw [List.length_append, hL]; rfl, ?_⟩;subst hs;rw [ZC, List.map_append];exact h
theorem Jfr {Q : List (List UInt8)} {j : Nat} {y : List UInt8} (h : Q[j]? = some y) : Qp (Q.take (j + 1)) = Qp (Q.take j) ++ [[32, 32] ++ y] := by
 unfold Qp;rw [List.take_add_one, h, List.map_append];rfl
def Jj0 (n : Nat) : Prop := ∀ (d : TreeD) (cs : List Value) (w w0 : World) (lo base : Nat), C_Tree n lo base w d cs -> base <= w.heap.size -> Ju n d = true -> Jl n d <= 300 -> Jw n d <= 40 -> Tabs w0 -> Pow w0 -> w0.heap.size <= base -> Below w0.heap.size w0 w ->
  Calls Tryz.prog 83 #[.agg cs.toArray] w fun e w' => ∃ (A : Option Addr) (c : Nat), e = .returned (.slice A (Jt n d).length c) /\ RowS w.heap.size w' (Q5 (Jt n d)) (Jt n d).length (.slice A (Jt n d).length c) /\ Below w.heap.size w w'
theorem JlM (n : Nat) (ih : Jj0 n) : Jj0 (n + 1) := by
 intro d cs w w0 lo base h hbw hsh hsz hn40 hTab hPow hw0 hb00;have hlb := Jak (n + 1) d hsh (Uh h)
 have HLin := hid (fun (t : TreeD) (ht : t ∈ d.kids) => by
  obtain ⟨i, hi⟩ := List.getElem?_of_mem ht
  exact Jak n t (J6 hsh hi) ((Uh h).2 t ht))
 have HSh := hid hsh;have HDp := hid (fun (k : Nat) (t : TreeD) (ht : d.kids[k]? = some t) => show Jw n t <= 39 by have := (Vq (n := n) ht).2; omega);have HSk := hid (fun (k : Nat) (t : TreeD) (ht : d.kids[k]? = some t) => VL (n := n) ht);have HKk := hid (fun (hk : d.kids ≠ []) => Jag hsh hk);have HTP := hid (And.intro hTab hPow);have HB00 := hid hb00
 by_cases hk : d.kids = []
 ·have hl := VD (n := n) hk
  have HSc := hid (fun (W : World) (hb : Below w.heap.size w W) => XH n d cs W lo ((h.old (hb.mono hbw)).keep (VY (Below.refl _ _)) (Nat.le_refl _) (Nat.le_trans hbw hb.size)) hk hsh (hTab.below (hb00.trans (hb.mono (Nat.le_trans hw0 hbw)))) (hPow.below (hb00.trans (hb.mono (Nat.le_trans hw0 hbw)))));rw [hl];obtain ⟨A4, c4, A5, c5, rfl⟩ := C_Tree.open h;obtain ⟨s, hs⟩ : ∃ s, s = Jx d := ⟨_, rfl⟩
  rw [<- hs] at HSc ⊢;have HX := hid (show Q5 [s.data.toList] = [s] by unfold Q5; rw [List.map_cons, Z5]; rfl);obtain ⟨kn, hkn⟩ : ∃ kn, kn = d.kids.length := ⟨_, rfl⟩
  rw [<- hkn] at HSc ⊢;have hkn0 : kn = 0 := by rw [hkn, hk]; rfl
  subst hkn0;clear h hlb hk hl hs hkn HLin HKk HSk hsh HDp;go_enter Tryz.func83, Tryz.ntmps83
  go_wp2_with fail
  refine (HSc.out _ Jj).mono ?_;rintro e w1 ⟨rfl, hb1⟩;have HB1 := hid (show Below w.heap.size w w1 from Below.trans Jj (hb1.mono (by simp)));clear hb1;go_wp2_with fail
  go_ret
  exact ⟨_, _, rfl, by rw [HX.out]; exact RowS.one _ _ _ HB1.out.size, (have hb1 := HB1.out; Jj)⟩
 have hl := Yq (n := n) hk;have hmore := hlb.more hk;have hkd := HKk.out hk;obtain ⟨LL, hLL⟩ : ∃ LL, LL = Jt (n + 1) d := ⟨_, rfl⟩
 rw [<- hLL] at hl hmore ⊢;have HL := hid hl;have HMore := hid (show LL.length <= 299 by omega);have HPre := hid (fun (k : Nat) (hk : k <= d.kids.length) => (Xs (g := J2 (Jt n) d) (f := Jl n) (l := d.kids) (m := 4806 + 2 * Jw (n + 1) d) k hk (fun i t _ ht => (Jei hsh ht (HLin.out t (List.mem_of_getElem? ht))).2)).1);have HDk := hid (fun (k : Nat) => Nat.le_trans (Yl (Jl n) d.kids k) (show QZ (Jl n) d.kids <= 299 by rw [JJ] at hsz; omega))
 obtain ⟨v4, v5, rfl, a0, a2, a3, a4, a5⟩ := C_Tree.out h;obtain ⟨A4, c4, rfl, hlk, hck, hK⟩ := a4;obtain ⟨A5, c5, rfl, hlc, hcc, hA⟩ := a5;clear h hlb hl hmore hLL hsh;obtain ⟨dk, df, dn, dt, dks, dkd⟩ := d;simp only at a0 a2 a3 hlk hK hlc hA HSk HKk HLin HL HPre HDk HDp hkd hk ⊢;have hpos : 0 < dkd.length := List.length_pos_iff.2 hk;have d0 : ((dkd.length : Int) == 0) = false := JmH (by omega)
 have d0' : (dkd.length == 0) = false := JmH (by omega);have d0i : dkd.isEmpty = false := by cases dkd with | nil => exact absurd rfl hk | cons _ _ => rfl
 obtain ⟨g, hg⟩ : ∃ g, g = J2 (Jt n) ⟨dk, df, dn, dt, dks, dkd⟩ := ⟨_, rfl⟩
 rw [<- hg] at HL HPre;have HG := hid hg;obtain ⟨W0, hW0⟩ : ∃ W, W = w.alloc (.cells #[.int .i64 dk, .bool df, .int .i64 dn, .string dt, .slice A4 dks.length c4, .slice A5 dkd.length c5] 34) := ⟨_, rfl⟩
 have hB0 : Below w.heap.size w W0 := by rw [hW0]; exact Jj
 have HR0 := hid (show W0.heap[w.heap.size]? = some (.cells #[.int .i64 dk, .bool df, .int .i64 dn, .string dt, .slice A4 dks.length c4, .slice A5 dkd.length c5] 34 (0, 0)) by rw [hW0]; exact Je rfl);have HW0 := hid hW0;have hz0 : w.heap.size + 1 = W0.heap.size := by rw [hW0]; simp
 have HB0 := hid hB0;clear hW0 hB0 hk hg;go_enter Tryz.func83, Tryz.ntmps83
 go_upto_region 5 with fail
 rw [<- HW0.out];obtain ⟨x0, x1, x2, x3, x4, x5, xf⟩ := Jf ((Jj : Below W0.heap.size W0 (W0.alloc (.cells #[] 9))).block _ (Ja HR0.out) |>.trans HR0.out);have l0 : w.heap.size < (W0.alloc (.cells #[] 9)).heap.size := by simp; omega
 go_wp2_with fail
 go_loopw [5, 26] (fun s5 v wr => ∃ (k N : Nat) (A : Option Addr) (c : Nat), k <= dkd.length /\ v = .int .i64 k /\ s5 = .slice A N c /\ RowS W0.heap.size wr (Q5 (Qj g k)) N (.slice A N c) /\ Below W0.heap.size W0 wr) (fun _ v _ => dkd.length - (Lib.intOf v).toNat)
 case atStart => exact ⟨0, 0, _, _, Nat.zero_le _, rfl, rfl, RowS.empty rfl (Nat.le_refl _), Jj⟩
 case round =>
  clear x0 x1 x2 x3 x4 x5 xf l0;obtain ⟨k, N, A, c, hk, rfl, rfl, hrow, hbr⟩ := hrel;have HRow := hid hrow;have HBr := hid hbr;have HT := hid ((hbr.block _ (Ja HR0.out)).trans HR0.out);have hNz : N <= 299 := by rw [hrow.1, ZM]; exact Nat.le_trans (HPre.out k hk) (HDk.out k)
  have hbwr : Below w.heap.size w wr := HB0.out.trans (hbr.mono (by omega));have hsr := hbr.size;obtain ⟨x0, x1, x2, x3, x4, x5, xf⟩ := Jf HT.out;have l1 := Ja HT.out;by_cases hlt : k < dkd.length
  rotate_left
  ·obtain rfl : k = dkd.length := by omega
   have hke : decide (dkd.length < dkd.length) = false := JmF (Nat.lt_irrefl _);have HLn := hid (show N = LL.length by rw [hrow.1, ZM, HL.out]);have HBw := hid hbwr;clear hrow hbr hA hK hbwr;go_wp2_with fail
   go_ret
   rw [<- HLn.out, HL.out];exact ⟨A, c, rfl, HRow.out.less (by omega), HBw.out⟩
  obtain ⟨p, o, rfl, -, hbl, hcell⟩ := hA hpos;obtain ⟨t, ht⟩ := Jg hlt;obtain ⟨es, -, hcs, hC⟩ := hcell k t ht;obtain ⟨eA4, ec4, eA5, ec5, rfl, ea0, ea2, ea3⟩ := hC.flat;have hbrb : Below base w wr := hbwr.mono hbw;have hc0 := (hbrb.cell (p := ⟨p, o + k * 6 + 0, none⟩) (by simp; omega)).trans (hcs 0 (by omega));simp at hc0;have hc1 := (hbrb.cell (p := ⟨p, o + k * 6 + 1, none⟩) (by simp; omega)).trans (hcs 1 (by omega))
  simp at hc1;have hc2 := (hbrb.cell (p := ⟨p, o + k * 6 + 2, none⟩) (by simp; omega)).trans (hcs 2 (by omega));simp at hc2;have hc3 := (hbrb.cell (p := ⟨p, o + k * 6 + 3, none⟩) (by simp; omega)).trans (hcs 3 (by omega));simp at hc3;have hc4 := (hbrb.cell (p := ⟨p, o + k * 6 + 4, none⟩) (by simp; omega)).trans (hcs 4 (by omega));simp at hc4;have hc5 := (hbrb.cell (p := ⟨p, o + k * 6 + 5, none⟩) (by simp; omega)).trans (hcs 5 (by omega))
  simp at hc5;have hbr1 : p < wr.heap.size := by omega
  have hk0 : (0 : Int) <= k := by omega
  have hk1 : (k : Int) < dkd.length := by omega
  have hltb : decide (k < dkd.length) = true := JmG hlt;have HC := hid hC;have HLt := hid (HLin.out t (List.mem_of_getElem? ht));have HSt := hid (J6 HSh.out ht);have hszt : Jl n t <= 300 := by have := HSk.out k t ht; omega
  have hdt := HDp.out k t ht;have HTk := hid ht;have HBw := hid hbwr;clear hcs hcell hA hC ht hrow hbr hbwr hbrb;go_upto_region 8 with fail
  obtain ⟨wk, hwk⟩ : ∃ W, W = wr.alloc (.cells #[.int .i64 t.kind, .bool t.flag, .int .i64 t.num, .string t.text, .slice eA4 t.keys.length ec4, .slice eA5 t.kids.length ec5] 34) := ⟨_, rfl⟩
  have hbk : Below wr.heap.size wr wk := by rw [hwk]; exact Jj
  have X8 : wk.heap[wr.heap.size]? = some (.cells #[.int .i64 t.kind, .bool t.flag, .int .i64 t.num, .string t.text, .slice eA4 t.keys.length ec4, .slice eA5 t.kids.length ec5] 34 (0, 0)) := by rw [hwk]; exact Je rfl
  rw [<- hwk];have hsk2 := hbk.size;have hbk0 : Below w.heap.size w wk := HBw.out.trans (hbk.mono HBw.out.size);have HBk := hid hbk0;have HBk1 := hid (HBr.out.trans (hbk.mono HBr.out.size));have HRk := hid (HRow.out.below hbk);have HTk2 := hid ((hbk.block _ l1).trans HT.out);have HX8 := hid X8;have HIh := hid (ih t _ wk w0 lo base (HC.out.old (hbk0.mono hbw)) (by have := hbk0.size; omega) HSt.out hszt (by omega) HTP.out.1 HTP.out.2 hw0 (HB00.out.trans (hbk0.mono (by omega))))
  have hlk8 := Ja X8;clear hwk hbk X8 hbk0 x0 x1 x2 x3 x4 x5 xf hc0 hc1 hc2 hc3 hc4 hc5 l1;obtain ⟨y0, y1, y2, y3, y4, y5, yf⟩ := Jf HX8.out;go_wp2_with fail
  refine HIh.out.mono ?_;rintro e w9 ⟨A9, c9, rfl, h9, hb9⟩;obtain ⟨x, r, hxr⟩ := HLt.out.hd;have hlen9 := HLt.out.many;have hlong := HLt.out.long;have hleaf := HLt.out.leaf;rw [hxr] at h9 hlen9 hlong hleaf;simp only [List.length_cons] at h9 hlen9;obtain ⟨q, rfl, hq1, hq2, hq3, hq4⟩ := h9.open (Nat.succ_pos _);have hx0 : w9.cell? ⟨q, 0, none⟩ = some (.string (bs x)) := hq4 0 (bs x) rfl;have hsx : (bs x).size <= 4900 := by have := hlong x (by simp); rw [show (bs x).size = x.length from size_mk _]; omega
  have HQ4 := hid hq4;have HLong := hid hlong;have HLeaf := hid hleaf;have HXR := hid hxr;have HR9 := hid (HRk.out.below hb9);have HT9 := hid ((hb9.block _ (by omega)).trans HTk2.out);have HX9 := hid ((hb9.block _ hlk8).trans HX8.out);have HB9 := hid (HBk.out.trans (hb9.mono HBk.out.size));have HB09 := hid (HBk1.out.trans (hb9.mono HBk1.out.size));have hs9 := hb9.size
  have hoq : ∀ z, (Value.slice A N c).ownBlock = some z -> W0.heap.size <= z /\ z < wr.heap.size := fun z hz => HRow.out.lt hz
  have HOq := hid hoq;have hr1 : r.length <= 299 := by omega
  have hc91 : r.length + 1 <= c9 := hq3;rw [hxr];simp only [List.length_cons];clear h9 hb9 hq4 hlong hleaf hoq y0 y1 y2 y3 y4 y5 yf hxr;obtain ⟨x0, x1, x2, x3, x4, x5, xf⟩ := Jf HT9.out;obtain ⟨y0, y1, y2, y3, y4, y5, yf⟩ := Jf HX9.out;have lt9 := Ja HT9.out;have lx9 := Ja HX9.out;have hb9 := HB9.out;have hW9 : W0.heap.size <= w9.heap.size := by omega
  have hqo : (Value.slice A N c).ownBlock ≠ some q := fun e => by have := (HOq.out q e).2; omega
  go_upto_if 35 with fail
  go_cut [5, 8] from 36 to 72 (fun s5 s8 wx => ∃ (A1 : Option Addr) (c1 o M cM : Nat) (first : List UInt8) (Q : List (List UInt8)), s5 = .slice A1 (N + 1) c1 /\ s8 = .slice (some ⟨q, o, none⟩) M cM /\ M = Q.length /\ M <= 300 /\ M <= cM /\ g k = first :: Qp Q /\ RowS W0.heap.size wx (Q5 (Qj g k ++ [first])) (N + 1) (.slice A1 (N + 1) c1) /\ Grb w9 (.slice A N c) wx (.slice A1 (N + 1) c1) /\ ∀ j y, Q[j]? = some y -> w9.cell? ⟨q, o + j, none⟩ = some (.string (bs y)) /\ y.length <= 4900)
  case first =>
   rcases hkd with rfl | ⟨rfl, hkl⟩
   ·obtain ⟨A1, c1, w10, hr10, h10, g10⟩ := YQ w9 W0.heap.size N c A _ (⟨#[45, 32]⟩ ++ bs x) HR9.out (by omega) hW9
    have hcat : (⟨#[45, 32]⟩ : ByteArray) ++ bs x = bs ([45, 32] ++ x) := (Zv [45, 32] x).symm;have H10 := hid (And.intro h10 g10);have HCat := hid hcat;have hsum : ((⟨#[45, 32]⟩ : ByteArray) ++ bs x).size <= 5000 := by rw [ByteArray.size_append]; show 2 + (bs x).size <= 5000; omega
    have HKi := hid (show g k = ([45, 32] ++ x) :: Qp r by rw [HG.out]; exact JbD (show (5 : Int) ≠ 6 by decide) HTk.out HXR.out);have hone : 1 <= r.length + 1 := by omega
    clear h10 g10 hcat
    have hfin : ∀ (o : Nat) (cM : Nat) (s5 s8 : Value) (wx : World), (o = 1 ∨ r.length = 0) -> r.length <= cM -> s5 = .slice A1 (N + 1) c1 -> s8 = .slice (some ⟨q, o, none⟩) r.length cM -> wx = w10 -> ∃ (A1 : Option Addr) (c1 o M cM : Nat) (first : List UInt8) (Q : List (List UInt8)), s5 = .slice A1 (N + 1) c1 /\ s8 = .slice (some ⟨q, o, none⟩) M cM /\ M = Q.length /\ M <= 300 /\ M <= cM /\ g k = first :: Qp Q /\ RowS W0.heap.size wx (Q5 (Qj g k ++ [first])) (N + 1) (.slice A1 (N + 1) c1) /\ Grb w9 (.slice A N c) wx (.slice A1 (N + 1) c1) /\ ∀ j y, Q[j]? = some y -> w9.cell? ⟨q, o + j, none⟩ = some (.string (bs y)) /\ y.length <= 4900 := by
     rintro o cM s5 s8 wx ho hcM rfl rfl rfl;refine ⟨A1, c1, o, r.length, cM, [45, 32] ++ x, r, rfl, rfl, rfl, by omega, hcM, HKi.out, by rw [ZC]; have h1 := H10.out.1; rw [HCat.out] at h1; exact h1, H10.out.2, fun j y hy => ⟨?_, ?_⟩⟩
     ·have hj := (List.getElem?_eq_some_iff.1 hy).1
      obtain rfl : o = 1 := by omega
      rw [show 1 + j = j + 1 by omega];exact HQ4.out (j + 1) (bs y) (Xc (by rw [List.getElem?_cons_succ]; exact hy))
     have := HLong.out y (List.mem_cons_of_mem _ (List.mem_of_getElem? hy));omega
    have HFin := hid hfin;clear hfin;rcases Nat.lt_or_ge 1 c9 with hc9 | hc9
    ·go_wp2_with (at_builtin; refine Ji rfl (.tmp 36) (.tmp 41) 31 rfl _ _ _ w10 rfl rfl hr10 ?_)
     go_meet
     exact HFin.out 1 (c9 - 1) _ _ _ (.inl rfl) (by omega) rfl rfl rfl
    obtain rfl : c9 = 1 := by omega
    have HR0 := hid (show r.length = 0 by omega);clear hc9;go_wp2_with (at_builtin; refine Ji rfl (.tmp 36) (.tmp 41) 31 rfl _ _ _ w10 rfl rfl hr10 ?_)
    go_meet
    exact HFin.out 0 0 _ _ _ (.inr HR0.out) (by omega) rfl (by rw [HR0.out]) rfl
   obtain ⟨qk, oq, rfl, -, hql, hqc⟩ := hK (by omega);obtain ⟨ks, hks⟩ := Jg (show k < dks.length by omega);obtain ⟨es, -, hcs, rfl, hss⟩ := hqc k ks hks;have hkc := (hb9.cell (p := ⟨qk, oq + k * 1 + 0, none⟩) (by simp; omega)).trans (hcs 0 (by omega));simp at hkc;have hqw : qk < w9.heap.size := by omega
   have hk2 : (k : Int) < dks.length := by have := (List.getElem?_eq_some_iff.1 hks).1; omega
   have hs4 := Wl HSh.out hks;clear hkl;have hkb := JaV hs4;have HKs := hid hks;have HKT := hid (fun (W : World) (hb : Below w9.heap.size w9 W) => U6 ks W (by omega) (HTP.out.1.below (HB00.out.trans ((HB9.out.trans (hb.mono (by omega))).mono (by omega)))));obtain ⟨kt, hkt⟩ : ∃ kt, kt = Js ks := ⟨_, rfl⟩
   rw [<- hkt] at HKT hkb;have HKt := hid hkt;obtain ⟨i0, hi, hz0', hz1, hz2⟩ := info_parts (show (Tryz.prog.info? 9).map (fun i => (i.zero, i.size, i.bytes)) = some (some (.string ⟨#[]⟩), 1, 16) from by kernel_rfl);have HI0 := hid hi;clear hcs hqc hks hkt hi hK;by_cases htk : t.kids = []
   ·have e0 : ((t.kids.length : Int) == 0) = true := by rw [htk]; rfl
    have e0' : (t.kids.length == 0) = true := by rw [htk]; rfl
    have hxl := HLeaf.out htk x (by simp);have hsx2 : (bs x).size <= 2402 := by rw [show (bs x).size = x.length from size_mk _]; exact hxl
    have HKi := hid (show g k = [(Js ks).data.toList ++ [58, 32] ++ x] by rw [HG.out]; exact (JdQ rfl HTk.out HKs.out htk).trans (by rw [HXR.out]; rfl));have hsm1 : (kt ++ (⟨#[58, 32]⟩ : ByteArray)).size <= 2404 := by rw [ByteArray.size_append]; show kt.size + 2 <= 2404; omega
    have hsm2 : ¬ 9223372036854775807 < kt.size + 2 := by omega
    have hsm3 : ¬ 9223372036854775807 < kt.size + 2 + (bs x).size := by omega
    have hsm4 : (kt ++ (⟨#[58, 32]⟩ : ByteArray) ++ bs x).size <= 5000 := by rw [ByteArray.size_append]; omega
    have HCat := hid (show kt ++ (⟨#[58, 32]⟩ : ByteArray) ++ bs x = bs ((Js ks).data.toList ++ [58, 32] ++ x) by rw [Zv, Zv, Z5, HKt.out]; rfl);clear htk hxl;go_upto_region 13 with fail
    go_cut [5] from 36 to 72 (fun s5 wx => ∃ (g2 cap2 : Nat), s5 = .slice (some ⟨g2, 0, none⟩) (N + 1) cap2 /\ RowS W0.heap.size wx (Q5 (Qj g (k + 1))) (N + 1) (.slice (some ⟨g2, 0, none⟩) (N + 1) cap2) /\ Grb w9 (.slice A N c) wx (.slice (some ⟨g2, 0, none⟩) (N + 1) cap2))
    case first =>
     go_region_law (first | (refine step_append_lies _ rfl _ _ 31 rfl W0.heap.size 9 i0 (.string ⟨#[]⟩) 1 16 Tryz.underlying31 HI0.out hz0' hz1 hz2 rfl (by decide) _ N ((Q5 (Qj g k)).map Value.string) rfl ((HR9.out.below hb4).below (Jj : Below w4.heap.size w4 _)).2 ⟨w4.heap.size, 0, none⟩ 1 1 [.string (kt ++ (⟨#[58, 32]⟩ : ByteArray) ++ bs x)] rfl rfl (World.news_of_block (heap_alloc_new w4 _)) (fun u hu => by rcases List.mem_singleton.1 hu with rfl; rfl) (by decide) (by unfold maxLen; omega) (by omega) (by simp; omega) _ rfl ?_; intro g2 cap2 w2 hown2 hgrow2 hat2 hlt2) | (go_simp; go_at_call 157; refine (HKT.out _ Jj).mono ?_; rintro e4 w4 ⟨rfl, hb4d⟩; have hb4 : Below w9.heap.size w9 w4 := Jj; have hx4 := (hb4.cell (p := ⟨q, 0, none⟩) hq2).trans hx0; have hs4b := hb4.size))
     all_goals
      have hg3 : Grb (w4.alloc (.cells #[.string (kt ++ (⟨#[58, 32]⟩ : ByteArray) ++ bs x)] 9)) (.slice A N c) w2 (.slice (some ⟨g2, 0, none⟩) (N + 1) cap2) := Grb.of_at hgrow2 (hat2.elim (fun h => .inl h.symm) (fun h => .inr (congrArg some h)));have hg2 := ((Grb.of (.slice A N c) hb4).trans (Grb.of _ (Jj : Below w4.heap.size w4 (w4.alloc (.cells #[.string (kt ++ (⟨#[58, 32]⟩ : ByteArray) ++ bs x)] 9))))).trans hg3
      have HRw2 := hid (show RowS W0.heap.size w2 (Q5 (Qj g (k + 1))) (N + 1) _ by rw [Jbl, HKi.out]; exact Jhh HR9.out.1 HCat.out hown2)
      (try go_wp2_with fail)
      go_meet
      exact ⟨g2, cap2, rfl, HRw2.out, hg2⟩
    case rest =>
     obtain ⟨g2, cap2, rfl, hrw2, hg2⟩ := hcut;have HRw2 := hid hrw2;have HBw2 := hid (HB09.out.trans ((hg2.below HR9.out.2 hW9).mono (Nat.le_refl _)));clear hrw2 hg2 x0 x1 x2 x3 x4 x5 xf y0 y1 y2 y3 y4 y5 yf hx0 hkc hb9 e0 e0' hsm1 hsm2 hsm3 hsm4;go_wp2_with fail
     go_roundw
     case rel => exact ⟨k + 1, N + 1, _, _, by omega, by go_num, rfl, HRw2.out, HBw2.out⟩
     case measure => simp [Lib.intOf]; omega
   have e0 : ((t.kids.length : Int) == 0) = false := JmH (by have := List.length_pos_iff.2 htk; omega);have e0' : (t.kids.length == 0) = false := JmH (by have := List.length_pos_iff.2 htk; omega);have HKi := hid (show g k = ((Js ks).data.toList ++ [58]) :: Qp (x :: r) by rw [HG.out]; exact (JbE rfl HTk.out HKs.out htk).trans (by rw [HXR.out]))
   have hsm1 : (kt ++ (⟨#[58]⟩ : ByteArray)).size <= 2403 := by rw [ByteArray.size_append]; show kt.size + 1 <= 2403; omega
   have hsm2 : ¬ 9223372036854775807 < kt.size + 1 := by omega
   have HCat := hid (show kt ++ (⟨#[58]⟩ : ByteArray) = bs ((Js ks).data.toList ++ [58]) by rw [Zv, Z5, HKt.out]; rfl);clear htk;go_wp2_with fail
   refine (HKT.out w9 (Below.refl _ _)).mono ?_;rintro e w4 ⟨rfl, hb4⟩;have hs4b := hb4.size;obtain ⟨A1, c1, w10, hr10, h10, g10⟩ := YQ w4 W0.heap.size N c A _ (kt ++ (⟨#[58]⟩ : ByteArray)) (HR9.out.below hb4) (by omega) (by omega);rw [HCat.out] at h10;have HRw2 := hid (show RowS W0.heap.size w10 (Q5 (Qj g k ++ [(Js ks).data.toList ++ [58]])) (N + 1) (.slice A1 (N + 1) c1) by rw [ZC]; exact h10)
   have HG2 := hid ((Grb.of (.slice A N c) hb4).trans g10);clear h10 g10 hb4;go_wp2_with (at_builtin; refine Ji rfl (.tmp 63) (.tmp 71) 31 rfl _ _ _ w10 rfl rfl hr10 ?_)
   go_meet
   exact ⟨A1, c1, 0, r.length + 1, c9, _, x :: r, rfl, rfl, rfl, by omega, hc91, HKi.out, HRw2.out, HG2.out, fun j y hy => ⟨by rw [Nat.zero_add]; exact HQ4.out j (bs y) (Xc hy), by have := HLong.out y (List.mem_of_getElem? hy); omega⟩⟩
  case rest =>
   obtain ⟨A1, c1, o, M, cM, first, Q, rfl, rfl, hM, hM3, hMc, hgk, hrow1, hg1, hcl⟩ := hcut;have HR1 := hid hrow1;have HG1 := hid hg1;have HCl := hid hcl;have HGk := hid hgk;have HM := hid hM;clear hrow1 hg1 hcl hgk hM x0 x1 x2 x3 x4 x5 xf y0 y1 y2 y3 y4 y5 yf hx0;go_wp2_with fail
   go_loopw [5, 75] (fun s5 v wx => ∃ (j N2 : Nat) (A2 : Option Addr) (c2 : Nat), j <= M /\ v = .int .i64 j /\ s5 = .slice A2 N2 c2 /\ N2 = N + 1 + j /\ RowS W0.heap.size wx (Q5 (Qj g k ++ (first :: Qp (Q.take j)))) N2 (.slice A2 N2 c2) /\ Grb w9 (.slice A N c) wx (.slice A2 N2 c2)) (fun _ v _ => M - (Lib.intOf v).toNat)
   case atStart => exact ⟨0, N + 1, A1, c1, Nat.zero_le _, rfl, rfl, rfl, HR1.out, HG1.out⟩
   case round =>
    obtain ⟨j, N2, A2, c2, hj, rfl, rfl, hN2, hrw, hgr⟩ := hrel;have HRw := hid hrw;have HGr := hid hgr;have hsz2 := hgr.grown.size;have hWr : W0.heap.size <= wr.heap.size := by omega
    have HN2 := hid hN2;have hN2b : N2 <= 700 := by omega
    clear hrw hgr hN2;by_cases hlt2 : j < M
    ·obtain ⟨y, hy⟩ := Jg (show j < Q.length by have := HM.out; omega)
     obtain ⟨hcy, hyl⟩ := HCl.out j y hy;have hcy2 := (JbV (o := o + j) (HGr.out.keep hq2 hqo)).trans hcy;have hj0 : (0 : Int) <= j := by omega
     have hj1 : (j : Int) < M := by omega
     have hltb2 : decide (j < M) = true := JmG hlt2;have hqw : q < wr.heap.size := by omega
     have hbz : (bs y).size <= 4900 := by rw [show (bs y).size = y.length from size_mk _]; exact hyl
     have hsum : ((⟨#[32, 32]⟩ : ByteArray) ++ bs y).size <= 5000 := by rw [ByteArray.size_append]; show 2 + (bs y).size <= 5000; omega
     obtain ⟨A3, c3, w3, hr3, h3, g3⟩ := YQ wr W0.heap.size N2 c2 A2 _ (⟨#[32, 32]⟩ ++ bs y) HRw.out (by omega) hWr
     have H3 := hid (show RowS W0.heap.size w3 (Q5 (Qj g k ++ (first :: Qp (Q.take (j + 1))))) (N2 + 1) (.slice A3 (N2 + 1) c3) by
      have e : Qj g k ++ (first :: Qp (Q.take (j + 1))) = (Qj g k ++ (first :: Qp (Q.take j))) ++ [[32, 32] ++ y] := by rw [Jfr hy]; simp
      rw [e, ZC];have e2 : (⟨#[32, 32]⟩ : ByteArray) ++ bs y = bs ([32, 32] ++ y) := (Zv [32, 32] y).symm;rw [e2] at h3
      exact h3)
     have HG3 := hid (HGr.out.trans g3);clear h3 g3 hcy hy;go_wp2_with (at_builtin; refine Ji rfl (.tmp 79) (.tmp 82) 31 rfl _ _ _ w3 rfl rfl hr3 ?_)
     go_roundw
     case rel => exact ⟨j + 1, N2 + 1, A3, c3, by omega, by go_num, rfl, by have := HN2.out; omega, H3.out, HG3.out⟩
     case measure => simp [Lib.intOf]; omega
    obtain rfl : j = M := by omega
    have hke : decide (j < j) = false := JmF (Nat.lt_irrefl _)
    have HRf := hid (show RowS W0.heap.size wr (Q5 (Qj g (k + 1))) N2 (.slice A2 N2 c2) by
     have h1 := HRw.out;rw [List.take_of_length_le (Nat.le_of_eq HM.out.symm), <- HGk.out] at h1
     exact h1)
    have HBf := hid (HB09.out.trans ((HGr.out.below HR9.out.2 hW9).mono (Nat.le_refl _)));go_wp2_with fail
    go_roundw
    case rel => exact ⟨k + 1, N2, A2, c2, by omega, by go_num, rfl, HRf.out, HBf.out⟩
    case measure => simp [Lib.intOf]; omega
theorem Jhp : ∀ n, Jj0 n
 | 0 => fun _ _ _ _ _ _ h _ _ _ _ _ _ _ _ => (C_Tree.none h).elim
 | n + 1 => JlM n (Jhp n)
def Zx (h0 : List UInt8) : List (List UInt8) -> List (List UInt8)
 | [] => []
 | y :: r => (h0 ++ y) :: Qp r
theorem Jgz (h0 : List UInt8) (L : List (List UInt8)) : (Zx h0 L).length = L.length := by
 cases L with
 | nil => rfl
 | cons y r => show (Qp r).length + 1 = r.length + 1; rw [WQ]
theorem Jfn {h0 y : List UInt8} {L : List (List UInt8)} {j : Nat} (h : L[j]? = some y) : (Zx h0 L).take (j + 1) = (Zx h0 L).take j ++ [(if j = 0 then h0 else [32, 32]) ++ y] := by
 cases L with
 | nil => cases h
 | cons z r =>
  cases j with
  | zero => cases h; rfl
  | succ j =>
   rw [List.getElem?_cons_succ] at h;show (h0 ++ z) :: (Qp r).take (j + 1) = ((h0 ++ z) :: (Qp r).take j) ++ [_]
   rw [if_neg (by omega)];unfold Qp;rw [List.take_add_one, List.getElem?_map, h];rfl
def Jkl (n : Nat) : Prop := ∀ (d : TreeD) (cs : List Value) (w : World) (lo base : Nat), C_Tree n lo base w d cs -> base <= w.heap.size -> Ju n d = true -> Jl n d <= 300 -> Jw n d <= 40 ->
  Calls Tryz.prog 84 #[.agg cs.toArray] w fun e w' => ∃ (A : Option Addr) (c : Nat), e = .returned (.slice A (Jt n d).length c) /\ RowS w.heap.size w' (Q5 (Jt n d)) (Jt n d).length (.slice A (Jt n d).length c) /\ Below w.heap.size w w'
theorem JlZ (n : Nat) (ih : Jkl n) : Jkl (n + 1) := by
 intro d cs w lo base h hbw hsh hsz hn40;have hlb := Jak (n + 1) d hsh (Uh h)
 have HLin := hid (fun (t : TreeD) (ht : t ∈ d.kids) => by
  obtain ⟨i, hi⟩ := List.getElem?_of_mem ht
  exact Jak n t (J6 hsh hi) ((Uh h).2 t ht))
 have HSh := hid hsh;have HDp := hid (fun (k : Nat) (t : TreeD) (ht : d.kids[k]? = some t) => show Jw n t <= 39 by have := (Vq (n := n) ht).2; omega);have HSk := hid (fun (k : Nat) (t : TreeD) (ht : d.kids[k]? = some t) => VL (n := n) ht);have HKk := hid (fun (hk : d.kids ≠ []) => Jag hsh hk);by_cases hk : d.kids = []
 ·have hl := VD (n := n) hk
  have HSc := hid (fun (W : World) (hb : Below w.heap.size w W) => Xj n d cs W lo ((h.old (hb.mono hbw)).keep (VY (Below.refl _ _)) (Nat.le_refl _) (Nat.le_trans hbw hb.size)) hk hsh);rw [hl];obtain ⟨A4, c4, A5, c5, rfl⟩ := C_Tree.open h;obtain ⟨s, hs⟩ : ∃ s, s = Jx d := ⟨_, rfl⟩
  rw [<- hs] at HSc ⊢;have HX := hid (show Q5 [s.data.toList] = [s] by unfold Q5; rw [List.map_cons, Z5]; rfl);obtain ⟨kn, hkn⟩ : ∃ kn, kn = d.kids.length := ⟨_, rfl⟩
  rw [<- hkn] at HSc ⊢;have hkn0 : kn = 0 := by rw [hkn, hk]; rfl
  subst hkn0;clear h hlb hk hl hs hkn HLin HKk HSk hsh HDp;go_enter Tryz.func84, Tryz.ntmps84
  go_wp2_with fail
  refine (HSc.out _ Jj).mono ?_;rintro e w1 ⟨rfl, hb1⟩;have hB1 : Below w.heap.size w w1 := Below.trans Jj (hb1.mono (by simp; omega));have HE1 := hid ((RowS.empty (w := w.alloc (.cells #[.int .i64 d.kind, .bool d.flag, .int .i64 d.num, .string d.text, .slice A4 d.keys.length c4, .slice A5 0 c5] 34)) (base := w.heap.size) (B := w.heap.size + 1) (by simp) (by simp; try omega)).below hb1);obtain ⟨A1, c1, w2, hr2, h2, g2⟩ := YQ w1 w.heap.size 0 0 _ _ s HE1.out (by decide) hB1.size
  have H2 := hid (And.intro h2 (hB1.trans (g2.below HE1.out.2 hB1.size)));clear hb1 hB1 h2 g2;go_wp2_with (at_builtin; refine Ji rfl (.tmp 20) (.tmp 22) 31 rfl _ _ _ w2 rfl rfl hr2 ?_)
  go_ret
  exact ⟨A1, c1, rfl, by rw [HX.out]; exact H2.out.1, H2.out.2⟩
 have hl := Yq (n := n) hk;have hmore := hlb.more hk;have hkd := HKk.out hk;obtain ⟨LL, hLL⟩ : ∃ LL, LL = Jt (n + 1) d := ⟨_, rfl⟩
 rw [<- hLL] at hl hmore ⊢;have HL := hid hl;have HMore := hid (show LL.length <= 299 by omega);have HPre := hid (fun (k : Nat) (hk : k <= d.kids.length) => (Xs (g := J2 (Jt n) d) (f := Jl n) (l := d.kids) (m := 4806 + 2 * Jw (n + 1) d) k hk (fun i t _ ht => (Jei hsh ht (HLin.out t (List.mem_of_getElem? ht))).2)).1);have HDk := hid (fun (k : Nat) => Nat.le_trans (Yl (Jl n) d.kids k) (show QZ (Jl n) d.kids <= 299 by rw [JJ] at hsz; omega))
 obtain ⟨v4, v5, rfl, a0, a2, a3, a4, a5⟩ := C_Tree.out h;obtain ⟨A4, c4, rfl, hlk, hck, hK⟩ := a4;obtain ⟨A5, c5, rfl, hlc, hcc, hA⟩ := a5;clear h hlb hl hmore hLL hsh;obtain ⟨dk, df, dn, dt, dks, dkd⟩ := d;simp only at a0 a2 a3 hlk hK hlc hA HSk HKk HLin HL HPre HDk HDp hkd hk ⊢;have hpos : 0 < dkd.length := List.length_pos_iff.2 hk;have d0 : ((dkd.length : Int) == 0) = false := JmH (by omega)
 have d0' : (dkd.length == 0) = false := JmH (by omega);have d0i : dkd.isEmpty = false := by cases dkd with | nil => exact absurd rfl hk | cons _ _ => rfl
 obtain ⟨g, hg⟩ : ∃ g, g = J2 (Jt n) ⟨dk, df, dn, dt, dks, dkd⟩ := ⟨_, rfl⟩
 rw [<- hg] at HL HPre;have HG := hid hg;obtain ⟨W0, hW0⟩ : ∃ W, W = w.alloc (.cells #[.int .i64 dk, .bool df, .int .i64 dn, .string dt, .slice A4 dks.length c4, .slice A5 dkd.length c5] 34) := ⟨_, rfl⟩
 have hB0 : Below w.heap.size w W0 := by rw [hW0]; exact Jj
 have HR0 := hid (show W0.heap[w.heap.size]? = some (.cells #[.int .i64 dk, .bool df, .int .i64 dn, .string dt, .slice A4 dks.length c4, .slice A5 dkd.length c5] 34 (0, 0)) by rw [hW0]; exact Je rfl);have HW0 := hid hW0;have hz0 : w.heap.size + 1 = W0.heap.size := by rw [hW0]; simp
 have HB0 := hid hB0;clear hW0 hB0 hk hg;go_enter Tryz.func84, Tryz.ntmps84
 go_upto_region 5 with fail
 rw [<- HW0.out];go_wp2_with fail
 go_loopw [3, 6] (fun s3 v wr => ∃ (k N : Nat) (A : Option Addr) (c : Nat), k <= dkd.length /\ v = .int .i64 k /\ s3 = .slice A N c /\ RowS W0.heap.size wr (Q5 (Qj g k)) N (.slice A N c) /\ Below W0.heap.size W0 wr) (fun _ v _ => dkd.length - (Lib.intOf v).toNat)
 case atStart => exact ⟨0, 0, _, _, Nat.zero_le _, rfl, rfl, RowS.empty rfl (Nat.le_refl _), Jj⟩
 case round =>
  obtain ⟨k, N, A, c, hk, rfl, rfl, hrow, hbr⟩ := hrel;have HRow := hid hrow;have HBr := hid hbr;have HT := hid ((hbr.block _ (Ja HR0.out)).trans HR0.out);have hNz : N <= 299 := by rw [hrow.1, ZM]; exact Nat.le_trans (HPre.out k hk) (HDk.out k)
  have hbwr : Below w.heap.size w wr := HB0.out.trans (hbr.mono (by omega));have hsr := hbr.size;obtain ⟨x0, x1, x2, x3, x4, x5, xf⟩ := Jf HT.out;have l1 := Ja HT.out;by_cases hlt : k < dkd.length
  rotate_left
  ·obtain rfl : k = dkd.length := by omega
   have hke : decide (dkd.length < dkd.length) = false := JmF (Nat.lt_irrefl _);have HLn := hid (show N = LL.length by rw [hrow.1, ZM, HL.out]);have HBw := hid hbwr;clear hrow hbr hA hK hbwr;go_wp2_with fail
   go_ret
   rw [<- HLn.out, HL.out];exact ⟨A, c, rfl, HRow.out.less (by omega), HBw.out⟩
  obtain ⟨p, o, rfl, -, hbl, hcell⟩ := hA hpos;obtain ⟨t, ht⟩ := Jg hlt;obtain ⟨es, -, hcs, hC⟩ := hcell k t ht;obtain ⟨eA4, ec4, eA5, ec5, rfl, ea0, ea2, ea3⟩ := hC.flat;have hbrb : Below base w wr := hbwr.mono hbw;have hc0 := (hbrb.cell (p := ⟨p, o + k * 6 + 0, none⟩) (by simp; omega)).trans (hcs 0 (by omega));simp at hc0;have hc1 := (hbrb.cell (p := ⟨p, o + k * 6 + 1, none⟩) (by simp; omega)).trans (hcs 1 (by omega))
  simp at hc1;have hc2 := (hbrb.cell (p := ⟨p, o + k * 6 + 2, none⟩) (by simp; omega)).trans (hcs 2 (by omega));simp at hc2;have hc3 := (hbrb.cell (p := ⟨p, o + k * 6 + 3, none⟩) (by simp; omega)).trans (hcs 3 (by omega));simp at hc3;have hc4 := (hbrb.cell (p := ⟨p, o + k * 6 + 4, none⟩) (by simp; omega)).trans (hcs 4 (by omega));simp at hc4;have hc5 := (hbrb.cell (p := ⟨p, o + k * 6 + 5, none⟩) (by simp; omega)).trans (hcs 5 (by omega))
  simp at hc5;have hbr1 : p < wr.heap.size := by omega
  have hk0 : (0 : Int) <= k := by omega
  have hk1 : (k : Int) < dkd.length := by omega
  have hltb : decide (k < dkd.length) = true := JmG hlt;have HC := hid hC;have HLt := hid (HLin.out t (List.mem_of_getElem? ht));have HSt := hid (J6 HSh.out ht);have hszt : Jl n t <= 300 := by have := HSk.out k t ht; omega
  have hdt := HDp.out k t ht;have HTk := hid ht;have HBw := hid hbwr;clear hcs hcell hA hC ht hrow hbr hbwr hbrb;have HIh := hid (ih t _ wr lo base (HC.out.old (HBw.out.mono hbw)) (by have := HBw.out.size; omega) HSt.out hszt (by omega));have HC5 := hid hc5;go_wp2_with fail
  refine HIh.out.mono ?_;rintro e w9 ⟨A9, c9, rfl, h9, hb9⟩;clear x0 x1 x2 x3 x4 x5 xf hc0 hc1 hc2 hc3 hc4 hc5;obtain ⟨x, r, hxr⟩ := HLt.out.hd;have hlen9 := HLt.out.many;have hlong := HLt.out.long;have hleaf := HLt.out.leaf;rw [hxr] at h9 hlen9 hlong hleaf;simp only [List.length_cons] at h9 hlen9;obtain ⟨q, rfl, hq1, hq2, hq3, hq4⟩ := h9.open (Nat.succ_pos _);have hx0 : w9.cell? ⟨q, 0, none⟩ = some (.string (bs x)) := hq4 0 (bs x) rfl
  have hsx : (bs x).size <= 4900 := by have := hlong x (by simp); rw [show (bs x).size = x.length from size_mk _]; omega
  have HQ4 := hid hq4;have HLong := hid hlong;have HLeaf := hid hleaf;have HXR := hid hxr;have HR9 := hid (HRow.out.below hb9);have HT9 := hid ((hb9.block _ l1).trans HT.out);have hc95 := (hb9.cell (p := ⟨p, o + k * 6 + 5, none⟩) hbr1).trans HC5.out;have HB9 := hid (HBw.out.trans (hb9.mono HBw.out.size));have HB09 := hid (HBr.out.trans (hb9.mono HBr.out.size));have hs9 := hb9.size
  have hoq : ∀ z, (Value.slice A N c).ownBlock = some z -> W0.heap.size <= z /\ z < wr.heap.size := fun z hz => HRow.out.lt hz
  have HOq := hid hoq;have hr1 : r.length <= 299 := by omega
  have hc91 : r.length + 1 <= c9 := hq3;rw [hxr];simp only [List.length_cons];have hp9 : p < w9.heap.size := by omega
  clear h9 hb9 hq4 hlong hleaf hoq hxr;obtain ⟨x0, x1, x2, x3, x4, x5, xf⟩ := Jf HT9.out;have lt9 := Ja HT9.out;have hb9 := HB9.out;have hW9 : W0.heap.size <= w9.heap.size := by omega
  have hqo : (Value.slice A N c).ownBlock ≠ some q := fun e => by have := (HOq.out q e).2; omega
  go_upto_if 39 with fail
  go_cut [3, 8] from 40 to 71 (fun s3 s8 wx => ∃ (A1 : Option Addr) (c1 N1 : Nat) (h0 : List UInt8) (pre : List (List UInt8)), s3 = .slice A1 N1 c1 /\ s8 = .string (bs h0) /\ h0.length <= 2 /\ N1 <= 300 /\ g k = pre ++ Zx h0 (x :: r) /\ RowS W0.heap.size wx (Q5 (Qj g k ++ pre)) N1 (.slice A1 N1 c1) /\ Grb w9 (.slice A N c) wx (.slice A1 N1 c1))
  case first =>
   rcases hkd with rfl | ⟨rfl, hkl⟩
   ·have HKi := hid (show g k = [] ++ Zx [45, 32] (x :: r) by rw [HG.out]; exact JbD (show (5 : Int) ≠ 6 by decide) HTk.out HXR.out)
    go_wp2_with fail
    go_meet
    exact ⟨A, c, N, [45, 32], [], rfl, rfl, Nat.le_refl _, by omega, HKi.out, by rw [List.append_nil]; exact HR9.out, Grb.of _ (Below.refl _ _)⟩
   obtain ⟨qk, oq, rfl, -, hql, hqc⟩ := hK (by omega);obtain ⟨ks, hks⟩ := Jg (show k < dks.length by omega);obtain ⟨es, -, hcs, rfl, hss⟩ := hqc k ks hks;have hkc := (hb9.cell (p := ⟨qk, oq + k * 1 + 0, none⟩) (by simp; omega)).trans (hcs 0 (by omega));simp at hkc;have hqw : qk < w9.heap.size := by omega
   have hk2 : (k : Int) < dks.length := by have := (List.getElem?_eq_some_iff.1 hks).1; omega
   have hs4 := Wl HSh.out hks;clear hkl;have hkb := JaV hs4;have HKs := hid hks;have HKT := hid (fun (W : World) (hb : Below w9.heap.size w9 W) => UY ks W (by omega));obtain ⟨kt, hkt⟩ : ∃ kt, kt = Js ks := ⟨_, rfl⟩
   rw [<- hkt] at HKT hkb;have HKt := hid hkt;obtain ⟨i0, hi, hz0', hz1, hz2⟩ := info_parts (show (Tryz.prog.info? 9).map (fun i => (i.zero, i.size, i.bytes)) = some (some (.string ⟨#[]⟩), 1, 16) from by kernel_rfl);have HI0 := hid hi;clear hcs hqc hks hkt hi hK;by_cases htk : t.kids = []
   ·have e0 : ((t.kids.length : Int) == 0) = true := by rw [htk]; rfl
    have e0' : (t.kids.length == 0) = true := by rw [htk]; rfl
    have hxl := HLeaf.out htk x (by simp);have hsx2 : (bs x).size <= 2402 := by rw [show (bs x).size = x.length from size_mk _]; exact hxl
    have HKi := hid (show g k = [(Js ks).data.toList ++ [58, 32] ++ x] by rw [HG.out]; exact (JdQ rfl HTk.out HKs.out htk).trans (by rw [HXR.out]; rfl));have hsm1 : (kt ++ (⟨#[58, 32]⟩ : ByteArray)).size <= 2404 := by rw [ByteArray.size_append]; show kt.size + 2 <= 2404; omega
    have hsm2 : ¬ 9223372036854775807 < kt.size + 2 := by omega
    have hsm3 : ¬ 9223372036854775807 < kt.size + 2 + (bs x).size := by omega
    have hsm4 : (kt ++ (⟨#[58, 32]⟩ : ByteArray) ++ bs x).size <= 5000 := by rw [ByteArray.size_append]; omega
    have HCat := hid (show kt ++ (⟨#[58, 32]⟩ : ByteArray) ++ bs x = bs ((Js ks).data.toList ++ [58, 32] ++ x) by rw [Zv, Zv, Z5, HKt.out]; rfl);clear htk hxl;go_upto_region 13 with fail
    go_cut [3] from 40 to 71 (fun s3 wx => ∃ (g2 cap2 : Nat), s3 = .slice (some ⟨g2, 0, none⟩) (N + 1) cap2 /\ RowS W0.heap.size wx (Q5 (Qj g (k + 1))) (N + 1) (.slice (some ⟨g2, 0, none⟩) (N + 1) cap2) /\ Grb w9 (.slice A N c) wx (.slice (some ⟨g2, 0, none⟩) (N + 1) cap2))
    case first =>
     go_region_law (first | (refine step_append_lies _ rfl _ _ 31 rfl W0.heap.size 9 i0 (.string ⟨#[]⟩) 1 16 Tryz.underlying31 HI0.out hz0' hz1 hz2 rfl (by decide) _ N ((Q5 (Qj g k)).map Value.string) rfl ((HR9.out.below hb4).below (Jj : Below w4.heap.size w4 _)).2 ⟨w4.heap.size, 0, none⟩ 1 1 [.string (kt ++ (⟨#[58, 32]⟩ : ByteArray) ++ bs x)] rfl rfl (World.news_of_block (heap_alloc_new w4 _)) (fun u hu => by rcases List.mem_singleton.1 hu with rfl; rfl) (by decide) (by unfold maxLen; omega) (by omega) (by simp; omega) _ rfl ?_; intro g2 cap2 w2 hown2 hgrow2 hat2 hlt2) | (go_simp; go_at_call 159; refine (HKT.out _ Jj).mono ?_; rintro e4 w4 ⟨rfl, hb4d⟩; have hb4 : Below w9.heap.size w9 w4 := Jj; have hx4 := (hb4.cell (p := ⟨q, 0, none⟩) hq2).trans hx0; have hs4b := hb4.size))
     all_goals
      have hg3 : Grb (w4.alloc (.cells #[.string (kt ++ (⟨#[58, 32]⟩ : ByteArray) ++ bs x)] 9)) (.slice A N c) w2 (.slice (some ⟨g2, 0, none⟩) (N + 1) cap2) := Grb.of_at hgrow2 (hat2.elim (fun h => .inl h.symm) (fun h => .inr (congrArg some h)));have hg2 := ((Grb.of (.slice A N c) hb4).trans (Grb.of _ (Jj : Below w4.heap.size w4 (w4.alloc (.cells #[.string (kt ++ (⟨#[58, 32]⟩ : ByteArray) ++ bs x)] 9))))).trans hg3
      have HRw2 := hid (show RowS W0.heap.size w2 (Q5 (Qj g (k + 1))) (N + 1) _ by rw [Jbl, HKi.out]; exact Jhh HR9.out.1 HCat.out hown2)
      (try go_wp2_with fail)
      go_meet
      exact ⟨g2, cap2, rfl, HRw2.out, hg2⟩
    case rest =>
     obtain ⟨g2, cap2, rfl, hrw2, hg2⟩ := hcut;have HRw2 := hid hrw2;have HBw2 := hid (HB09.out.trans ((hg2.below HR9.out.2 hW9).mono (Nat.le_refl _)));clear hrw2 hg2 x0 x1 x2 x3 x4 x5 xf hx0 hkc hb9 e0 e0' hc95 hsm1 hsm2 hsm3 hsm4;go_wp2_with fail
     go_roundw
     case rel => exact ⟨k + 1, N + 1, _, _, by omega, by go_num, rfl, HRw2.out, HBw2.out⟩
     case measure => simp [Lib.intOf]; omega
   have e0 : ((t.kids.length : Int) == 0) = false := JmH (by have := List.length_pos_iff.2 htk; omega);have e0' : (t.kids.length == 0) = false := JmH (by have := List.length_pos_iff.2 htk; omega);have HKi := hid (show g k = [(Js ks).data.toList ++ [58]] ++ Zx [32, 32] (x :: r) by rw [HG.out]; exact (JbE rfl HTk.out HKs.out htk).trans (by rw [HXR.out]; rfl))
   have hsm1 : (kt ++ (⟨#[58]⟩ : ByteArray)).size <= 2403 := by rw [ByteArray.size_append]; show kt.size + 1 <= 2403; omega
   have hsm2 : ¬ 9223372036854775807 < kt.size + 1 := by omega
   have HCat := hid (show kt ++ (⟨#[58]⟩ : ByteArray) = bs ((Js ks).data.toList ++ [58]) by rw [Zv, Z5, HKt.out]; rfl);clear htk;go_wp2_with fail
   refine (HKT.out w9 (Below.refl _ _)).mono ?_;rintro e w4 ⟨rfl, hb4⟩;have hs4b := hb4.size;obtain ⟨A1, c1, w10, hr10, h10, g10⟩ := YQ w4 W0.heap.size N c A _ (kt ++ (⟨#[58]⟩ : ByteArray)) (HR9.out.below hb4) (by omega) (by omega);rw [HCat.out] at h10;have HRw2 := hid (show RowS W0.heap.size w10 (Q5 (Qj g k ++ [(Js ks).data.toList ++ [58]])) (N + 1) (.slice A1 (N + 1) c1) by rw [ZC]; exact h10)
   have HG2 := hid ((Grb.of (.slice A N c) hb4).trans g10);clear h10 g10 hb4;go_wp2_with (at_builtin; refine Ji rfl (.tmp 62) (.tmp 70) 31 rfl _ _ _ w10 rfl rfl hr10 ?_)
   go_meet
   exact ⟨A1, c1, N + 1, [32, 32], _, rfl, rfl, Nat.le_refl _, by omega, HKi.out, HRw2.out, HG2.out⟩
  case rest =>
   obtain ⟨A1, c1, N1, h0, pre, rfl, rfl, hh0, hN1, hgk, hrow1, hg1⟩ := hcut;have HR1 := hid hrow1;have HG1 := hid hg1;have HGk := hid hgk;obtain ⟨M, hM⟩ : ∃ M, M = r.length + 1 := ⟨_, rfl⟩
   have HM := hid (show (x :: r).length = M from hM.symm);have hM3 : M <= 300 := by omega
   have hMc : M <= c9 := by omega
   rw [<- hM];clear hrow1 hg1 hgk hM x0 x1 x2 x3 x4 x5 xf hx0 hc95 hc91;go_wp2_with fail
   go_loopw [3, 8, 9] (fun s3 s8 v wx => ∃ (j N2 : Nat) (A2 : Option Addr) (c2 : Nat), j <= M /\ v = .int .i64 j /\ s3 = .slice A2 N2 c2 /\ s8 = .string (bs (if j = 0 then h0 else [32, 32])) /\ N2 = N1 + j /\ RowS W0.heap.size wx (Q5 (Qj g k ++ (pre ++ (Zx h0 (x :: r)).take j))) N2 (.slice A2 N2 c2) /\ Grb w9 (.slice A N c) wx (.slice A2 N2 c2)) (fun _ _ v _ => M - (Lib.intOf v).toNat)
   case atStart => exact ⟨0, N1, A1, c1, Nat.zero_le _, rfl, rfl, by rw [if_pos rfl], rfl, by rw [List.take_zero, List.append_nil]; exact HR1.out, HG1.out⟩
   case round =>
    obtain ⟨j, N2, A2, c2, hj, rfl, rfl, rfl, hN2, hrw, hgr⟩ := hrel;have HRw := hid hrw;have HGr := hid hgr;have hsz2 := hgr.grown.size;have hWr : W0.heap.size <= wr.heap.size := by omega
    have HN2 := hid hN2;have hN2b : N2 <= 700 := by omega
    obtain ⟨hd, hhd⟩ : ∃ hd, hd = (if j = 0 then h0 else [32, 32]) := ⟨_, rfl⟩
    rw [<- hhd];have HHd := hid hhd;have hhl : hd.length <= 2 := by rw [hhd]; split; exact hh0; exact Nat.le_refl _
    clear hrw hgr hN2 hhd;by_cases hlt2 : j < M
    ·obtain ⟨y, hy⟩ := Jg (show j < (x :: r).length by have := HM.out; omega)
     have hyl := HLong.out y (List.mem_of_getElem? hy);have hcy := HQ4.out j (bs y) (Xc hy);have hcy2 := (JbV (o := j) (HGr.out.keep hq2 hqo)).trans hcy;have hj0 : (0 : Int) <= j := by omega
     have hj1 : (j : Int) < M := by omega
     have hltb2 : decide (j < M) = true := JmG hlt2;have hqw : q < wr.heap.size := by omega
     have hbz : (bs y).size <= 4900 := by rw [show (bs y).size = y.length from size_mk _]; omega
     have hbh : (bs hd).size <= 2 := by rw [show (bs hd).size = hd.length from size_mk _]; exact hhl
     have hsum : (bs hd ++ bs y).size <= 5000 := by rw [ByteArray.size_append]; omega
     obtain ⟨A3, c3, w3, hr3, h3, g3⟩ := YQ wr W0.heap.size N2 c2 A2 _ (bs hd ++ bs y) HRw.out (by omega) hWr
     have H3 := hid (show RowS W0.heap.size w3 (Q5 (Qj g k ++ (pre ++ (Zx h0 (x :: r)).take (j + 1)))) (N2 + 1) (.slice A3 (N2 + 1) c3) by
      have e : Qj g k ++ (pre ++ (Zx h0 (x :: r)).take (j + 1)) = (Qj g k ++ (pre ++ (Zx h0 (x :: r)).take j)) ++ [hd ++ y] := by rw [Jfn hy, HHd.out]; simp
      rw [e, ZC];rw [<- Zv] at h3
      exact h3)
     have HG3 := hid (HGr.out.trans g3);clear h3 g3 hcy hy;go_wp2_with (at_builtin; refine Ji rfl (.tmp 78) (.tmp 85) 31 rfl _ _ _ w3 rfl rfl hr3 ?_)
     go_roundw
     case rel => exact ⟨j + 1, N2 + 1, A3, c3, by omega, by go_num, rfl, by rw [if_neg (by omega)]; rfl, by have := HN2.out; omega, H3.out, HG3.out⟩
     case measure => simp [Lib.intOf]; omega
    obtain rfl : j = M := by omega
    have hke : decide (j < j) = false := JmF (Nat.lt_irrefl _)
    have HRf := hid (show RowS W0.heap.size wr (Q5 (Qj g (k + 1))) N2 (.slice A2 N2 c2) by
     have h1 := HRw.out;rw [List.take_of_length_le (by rw [Jgz, HM.out]; exact Nat.le_refl _), <- HGk.out] at h1
     exact h1)
    have HBf := hid (HB09.out.trans ((HGr.out.below HR9.out.2 hW9).mono (Nat.le_refl _)));go_wp2_with fail
    go_roundw
    case rel => exact ⟨k + 1, N2, A2, c2, by omega, by go_num, rfl, HRf.out, HBf.out⟩
    case measure => simp [Lib.intOf]; omega
theorem JhJ : ∀ n, Jkl n
 | 0 => fun _ _ _ _ _ h _ _ _ _ => (C_Tree.none h).elim
 | n + 1 => JlZ n (JhJ n)
open Go.Shelf
def XO : Go.Shelf.Ren := ⟨fun | 156 => 82 | 165 => 153 | 166 => 154 | 169 => 155 | 240 => 216 | 241 => 217 | 276 => 253 | 277 => 254 | n => n, fun | 31 => 31 | 9 => 9 | 3 => 3 | 4 => 4 | 0 => 0 | 20 => 20 | 72 => 139 | 76 => 142 | 70 => 137 | 37 => 28 | 75 => 141 | 127 => 175 | 164 => 198 | 5 => 5 | 80 => 144 | n => n, fun | n => n⟩
theorem JjW : Go.Proofs.Lays.n156 Tryz.prog XO := {
 mixed := by kernel_rfl
 f156 := Tryz.func82.trans (congrArg some (by kernel_rfl))
 f165 := Tryz.func153.trans (congrArg some (by kernel_rfl))
 f166 := Tryz.func154.trans (congrArg some (by kernel_rfl))
 f169 := Tryz.func155.trans (congrArg some (by kernel_rfl))
 f240 := Tryz.func216.trans (congrArg some (by kernel_rfl))
 f241 := Tryz.func217.trans (congrArg some (by kernel_rfl))
 f276 := Tryz.func253.trans (congrArg some (by kernel_rfl))
 f277 := Tryz.func254.trans (congrArg some (by kernel_rfl))
 t0 := Tryz.underlying0
 a0 := Tryz.isAgg0
 z0 := Tryz.sizeOf0
 v0 := Tryz.zeroValue0
 t3 := Tryz.underlying3
 a3 := Tryz.isAgg3
 z3 := Tryz.sizeOf3
 v3 := Tryz.zeroValue3
 t4 := Tryz.underlying4
 a4 := Tryz.isAgg4
 z4 := Tryz.sizeOf4
 v4 := Tryz.zeroValue4
 t9 := Tryz.underlying9
 a9 := Tryz.isAgg9
 z9 := Tryz.sizeOf9
 v9 := Tryz.zeroValue9
 t20 := Tryz.underlying20
 a20 := Tryz.isAgg20
 z20 := Tryz.sizeOf20
 v20 := Tryz.zeroValue20
 t31 := Tryz.underlying31
 a31 := Tryz.isAgg31
 z31 := Tryz.sizeOf31
 v31 := Tryz.zeroValue31
 t37 := Tryz.underlying28
 a37 := Tryz.isAgg28
 z37 := Tryz.sizeOf28
 v37 := Tryz.zeroValue28
 t70 := Tryz.underlying137
 a70 := Tryz.isAgg137
 z70 := Tryz.sizeOf137
 v70 := Tryz.zeroValue137
 t72 := Tryz.underlying139
 a72 := Tryz.isAgg139
 z72 := Tryz.sizeOf139
 v72 := Tryz.zeroValue139
 t75 := Tryz.underlying141
 a75 := Tryz.isAgg141
 z75 := Tryz.sizeOf141
 v75 := Tryz.zeroValue141
 t76 := Tryz.underlying142
 a76 := Tryz.isAgg142
 z76 := Tryz.sizeOf142
 v76 := Tryz.zeroValue142
 t127 := Tryz.underlying175
 a127 := Tryz.isAgg175
 z127 := Tryz.sizeOf175
 v127 := Tryz.zeroValue175
 t164 := Tryz.underlying198
 a164 := Tryz.isAgg198
 z164 := Tryz.sizeOf198
 v164 := Tryz.zeroValue198 }
def Y0 (n : Nat) (d : TreeD) : List (List UInt8) := if Uu n d = true then Jt n d else []
theorem Jf9 (L : List (List UInt8)) (x : List UInt8) : textL (L ++ [x]) = textL L ++ x ++ [10] := by unfold textL; simp
theorem Jdp {m : Nat} : ∀ (L : List (List UInt8)), (∀ x ∈ L, x.length <= m) -> (textL L).length <= (m + 1) * L.length
 | [], _ => Nat.zero_le _
 | x :: L, h => by
  have h1 := Jdp L (fun y hy => h y (by simp [hy]));have h2 := h x (by simp);have e : textL (x :: L) = x ++ [10] ++ textL L := by unfold textL; simp
  rw [e];simp only [List.length_append, List.length_cons, List.length_nil, Nat.mul_add];omega
theorem JdM {n : Nat} {d : TreeD} (h : Uu n d = true) : Jw n d <= 8 := by
 unfold Uu at h;simp only [Bool.and_eq_true] at h;exact of_decide_eq_true h.1.1
theorem Jih (L : List (List UInt8)) : (Q5 L).map (·.data.toList) = L := by
 unfold Q5;rw [List.map_map];exact (List.map_congr_left (fun x _ => (show (bs x).data.toList = x by unfold bs; simp))).trans (List.map_id _)
theorem Jia : ∀ (x : List UInt8) (r : List (List UInt8)), Lib.join (x :: r) [10] ++ [10] = textL (x :: r) := by
 intro x r;rw [Lib.join_cons]
 have h : ∀ r : List (List UInt8), Lib.joinTail [10] r ++ [10] = [10] ++ textL r := by
  intro r;induction r with
  | nil => rfl
  | cons y r ih =>
   have e1 : Lib.joinTail [10] (y :: r) = [10] ++ y ++ Lib.joinTail [10] r := by unfold Lib.joinTail; simp
   have e2 : textL (y :: r) = y ++ [10] ++ textL r := by unfold textL; simp
   rw [e1, e2, List.append_assoc, ih];simp
 have e2 : textL (x :: r) = x ++ [10] ++ textL r := by unfold textL; simp
 rw [e2, List.append_assoc, h r, List.append_assoc]
theorem Jmj : Builder.Extra Tryz.prog XO where
 sizeBuilder := by kernel_rfl
 liesBuilder := by kernel_rfl
 t5 := Tryz.underlying5
 a5 := Tryz.isAgg5
 z5 := Tryz.sizeOf5
 v5 := Tryz.zeroValue5
 infoByte := by kernel_rfl
 cellsByte := by kernel_rfl
 sizeByte := by kernel_rfl
 neB5 := by decide
theorem UJ (n : Nat) (d : TreeD) (cs : List Value) (w : World) (lo : Nat) (h : C_Tree n lo w.heap.size w d cs) (hz : Jl n d <= 1073741824) :
  Calls Tryz.prog 44 #[.agg cs.toArray] w fun e w' => ∃ (A : Option Addr) (c : Nat), e = .returned (.slice A (Y0 n d).length c) /\ RowS w.heap.size w' (Q5 (Y0 n d)) (Y0 n d).length (.slice A (Y0 n d).length c) /\ Below w.heap.size w w' := by
 have HK := hid (fun (W : World) (hb : Below w.heap.size w W) => Vd n d cs W lo (h.now hb) hz);have HF := hid (show Y0 n d = if Uu n d = true then Jt n d else [] from rfl);by_cases hok : Uu n d = true
 ·obtain ⟨h3, hsh⟩ := V8 hok
  have HS := hid (fun (W : World) (hb : Below w.heap.size w W) => JhJ n d cs W lo w.heap.size (h.old hb) hb.size hsh h3 (Nat.le_trans (JdM hok) (by decide)));obtain ⟨L, hL⟩ : ∃ L, L = Jt n d := ⟨_, rfl⟩
  rw [<- hL] at HS HF;rw [show Y0 n d = L by rw [HF.out, if_pos hok]];rw [hok] at HK;obtain ⟨A4, c4, A5, c5, rfl⟩ := C_Tree.open h;clear h hok hL hz hsh h3 HF;go_enter Tryz.func44, Tryz.ntmps44
  go_upto_region 3 with (go_at_call 22; refine (HK.out _ Jj).mono ?_; rintro e w1 ⟨rfl, hb⟩; (first | (have hcu2 := Cum.join hcu hb; (try clear hcu); (try clear hc); (try clear hfz); (try clear hsz); (try clear hs0); (try clear hs1); (try clear hs2); (try clear hs3); (try clear hs4); ) | have hcu2 := Cum.mk hb); have hcu := hcu2; clear hcu2; obtain ⟨hc, hfz⟩ := JE hcu.h; have hsz := hcu.h.size; (try simp at hsz); (try have hs0 := Jd hsz); (try (have hs1 := Jc hsz; (try (have hs2 := Jc hs1; (try (have hs3 := Jc hs2; (try have hs4 := Jc hs3))))))))
  go_wp2_with fail
  refine (HS.out _ Jj).mono ?_;rintro e w9 ⟨A, c, rfl, hr, hb9⟩;have HR := hid hr;have hw1 : Below w.heap.size w w1 := Jj;have hsw := hw1.size;have HB := hid (hw1.trans (hb9.mono hsw));clear hr hb9;go_wp2_with fail
  go_ret
  exact ⟨A, c, rfl, HR.out.less hsw, HB.out⟩
 rw [show Y0 n d = [] by rw [HF.out, if_neg hok]];rw [Bool.not_eq_true] at hok;rw [hok] at HK;obtain ⟨A4, c4, A5, c5, rfl⟩ := C_Tree.open h;clear h hok hz HF;go_enter Tryz.func44, Tryz.ntmps44
 go_wp2_with (go_at_call 22; refine (HK.out _ Jj).mono ?_; rintro e w1 ⟨rfl, hb⟩; (first | (have hcu2 := Cum.join hcu hb; (try clear hcu); (try clear hc); (try clear hfz); (try clear hsz); (try clear hs0); (try clear hs1); (try clear hs2); (try clear hs3); (try clear hs4); ) | have hcu2 := Cum.mk hb); have hcu := hcu2; clear hcu2; obtain ⟨hc, hfz⟩ := JE hcu.h; have hsz := hcu.h.size; (try simp at hsz); (try have hs0 := Jd hsz); (try (have hs1 := Jc hsz; (try (have hs2 := Jc hs1; (try (have hs3 := Jc hs2; (try have hs4 := Jc hs3))))))))
 go_ret
 exact ⟨_, _, rfl, RowS.empty rfl (show Below w.heap.size w _ from Jj).size, Jj⟩
theorem Wr (n : Nat) (d : TreeD) (cs : List Value) (w : World) (lo : Nat) (h : C_Tree n lo w.heap.size w d cs) (hz : Jl n d <= 1073741824) (hT : Tabs w) (hP : Pow w) :
  Calls Tryz.prog 41 #[.agg cs.toArray] w fun e w' => e = .returned (.string (Uc n d)) /\ Below w.heap.size w w' := by
 have HK := hid (fun (W : World) (hb : Below w.heap.size w W) => Ww n d cs W lo (h.now hb) hz (hT.below hb));have HF := hid (show Uc n d = if Uu n d = true then (if 20000 < (textL (Jt n d)).length then ⟨#[]⟩ else bs (textL (Jt n d))) else ⟨#[]⟩ from rfl);by_cases hok : Uu n d = true
 ·obtain ⟨h3, hsh⟩ := V8 hok
  have hlb := Jak n d hsh (Uh h);have hlen := Nat.le_trans hlb.many h3;have hlong : ∀ x ∈ Jt n d, x.length <= 4886 := fun x hx => by have := hlb.long x hx; have := JdM hok; omega
  obtain ⟨x0, r0, hxr⟩ := hlb.hd;have HS := hid (fun (W : World) (hb : Below w.heap.size w W) => Jhp n d cs W w lo w.heap.size (h.old hb) hb.size hsh h3 (Nat.le_trans (JdM hok) (by decide)) hT hP (Nat.le_refl _) hb);obtain ⟨L, hL⟩ : ∃ L, L = Jt n d := ⟨_, rfl⟩
  rw [<- hL] at HS HF hlen hlong hxr;obtain ⟨b, hb⟩ : ∃ b, b = Uc n d := ⟨_, rfl⟩
  rw [<- hb] at HF ⊢;rw [hok] at HK HF;have htl := Jdp L hlong;have hjt : Lib.join L [10] ++ [10] = textL L := by rw [hxr]; exact Jia _ _
  obtain ⟨j, hj⟩ : ∃ j, j = Lib.join L [10] := ⟨_, rfl⟩
  rw [<- hj] at hjt;have hjl : j.length + 1 = (textL L).length := by rw [<- hjt, List.length_append]; rfl
  have HJ := hid hj;obtain ⟨js, hjs⟩ : ∃ js : ByteArray, js = ⟨j.toArray⟩ := ⟨_, rfl⟩
  have hjz : js.size = j.length := by rw [hjs]; show j.toArray.size = j.length; simp
  have HJs := hid hjs;have hLp : 0 < L.length := by rw [hxr]; exact Nat.succ_pos _
  have hjb : js.size + 1 <= 2000000 := by
   have h5 : (4886 + 1) * L.length <= (4886 + 1) * 300 := Nat.mul_le_mul_left _ hlen;omega
  have HTx := hid (show js ++ (⟨#[10]⟩ : ByteArray) = bs (textL L) by rw [<- hjt, Zv, hjs]; rfl);have HTl := hid (show js.size + 1 = (textL L).length by omega);obtain ⟨A4, c4, A5, c5, rfl⟩ := C_Tree.open h;clear h hok hL hb hz hsh h3 hT hP hlb hxr htl hjt hj hjl hjs hjz
  have hfin : ∀ (q c9 : Nat) (w9 : World), q < w9.heap.size -> L.length <= c9 -> (∀ i s, (Q5 L)[i]? = some s -> w9.cell? ⟨q, i, none⟩ = some (.string s)) -> Calls Tryz.prog 82 #[.slice (some ⟨q, 0, none⟩) L.length c9, .string ⟨#[10]⟩] w9 fun e w' => e = .returned (.string js) /\ Below w9.heap.size w9 w' := fun q c9 w9 h1 h2 h3 => by
   have hl := ZM L;have hm := Jih L;have e0 : (⟨#[10]⟩ : ByteArray).data.toList = [10] := rfl
   have := Any.strings_Join JjW Jmj q 0 c9 (Q5 L) ⟨#[10]⟩ w9 (fun j x hx => by rw [Nat.zero_add]; exact h3 j x hx) h1 (by rw [hl]; omega) (by rw [hl]; exact h2) (by
    rw [hm, e0, <- HJ.out];have : j.length = js.size := by rw [HJs.out]; show _ = j.toArray.size; simp
    omega)
   rw [hl, hm, e0, <- HJ.out, <- HJs.out] at this;exact this
  have HFin := hid hfin;clear hfin;by_cases hlg : 20000 < (textL L).length
  focus
   have HX := hid (show b = ⟨#[]⟩ by rw [HF.out, if_pos rfl, if_pos hlg]);have hzz := HTl.out;have dl : decide ((20000 : Int) < (js.size : Int) + 1) = true := JmG (by omega);have dl2 : decide (20000 < js.size + 1) = true := JmG (by omega);have dl3 : (20000 : Int) < (js.size : Int) + 1 := by omega
  rotate_left
  focus
   have HX := hid (show b = js ++ (⟨#[10]⟩ : ByteArray) by rw [HF.out, if_pos rfl, if_neg hlg, HTx.out]);have hzz := HTl.out;have dl : decide ((20000 : Int) < (js.size : Int) + 1) = false := JmF (by omega);have dl2 : decide (20000 < js.size + 1) = false := JmF (by omega)
  rotate_left
  all_goals
   clear hlg hzz;go_enter Tryz.func41, Tryz.ntmps41
   go_upto_region 3 with (go_at_call 81; refine (HK.out _ Jj).mono ?_; rintro e w1 ⟨rfl, hb⟩; (first | (have hcu2 := Cum.join hcu hb; (try clear hcu); (try clear hc); (try clear hfz); (try clear hsz); (try clear hs0); (try clear hs1); (try clear hs2); (try clear hs3); (try clear hs4); ) | have hcu2 := Cum.mk hb); have hcu := hcu2; clear hcu2; obtain ⟨hc, hfz⟩ := JE hcu.h; have hsz := hcu.h.size; (try simp at hsz); (try have hs0 := Jd hsz); (try (have hs1 := Jc hsz; (try (have hs2 := Jc hs1; (try (have hs3 := Jc hs2; (try have hs4 := Jc hs3))))))))
   go_wp2_with fail
   refine (HS.out _ Jj).mono ?_;rintro e w9 ⟨A, c, rfl, hr, hb9⟩;obtain ⟨q, rfl, hq1, hq2, hq3, hq4⟩ := hr.open hLp;have hw1 : Below w.heap.size w w1 := Jj;have hsw := hw1.size;have HB := hid (hw1.trans (hb9.mono hsw));have HC := hid (HFin.out q c w9 hq2 hq3 hq4);clear hr hb9 hq4;go_wp2_with fail
   refine HC.out.mono ?_;rintro e w10 ⟨rfl, hb10⟩;have HB2 := hid (HB.out.trans (hb10.mono HB.out.size));clear hb10;go_wp2_with fail
   go_ret
   exact ⟨by rw [HX.out]; rfl, HB2.out⟩
 rw [Bool.not_eq_true] at hok;obtain ⟨A4, c4, A5, c5, rfl⟩ := C_Tree.open h;have HX := hid (show Uc n d = ⟨#[]⟩ by rw [HF.out, if_neg (by rw [hok]; decide)]);rw [hok] at HK;clear h hok HF hz hT hP;go_enter Tryz.func41, Tryz.ntmps41
 go_wp2_with (go_at_call 81; refine (HK.out _ Jj).mono ?_; rintro e w1 ⟨rfl, hb⟩; (first | (have hcu2 := Cum.join hcu hb; (try clear hcu); (try clear hc); (try clear hfz); (try clear hsz); (try clear hs0); (try clear hs1); (try clear hs2); (try clear hs3); (try clear hs4); ) | have hcu2 := Cum.mk hb); have hcu := hcu2; clear hcu2; obtain ⟨hc, hfz⟩ := JE hcu.h; have hsz := hcu.h.size; (try simp at hsz); (try have hs0 := Jd hsz); (try (have hs1 := Jc hsz; (try (have hs2 := Jc hs1; (try (have hs3 := Jc hs2; (try have hs4 := Jc hs3))))))))
 go_ret
 exact ⟨by rw [HX.out]; rfl, Jj⟩
def inN (s : ByteArray) : ByteArray × Flt := if (JD s).1.code = 0 then (Uc 10 (JD s).2, Jv) else (⟨#[]⟩, (JD s).1)
theorem Uw (s : ByteArray) (w : World) (hs : s.size <= 1048576) (hP : Pow w) (hE : ErrR w) (hT : Tabs w) (hV : CTab w) (hM : MaxL w) :
  Calls Tryz.prog 15 #[.string s] w fun e w' => e = .returned (.tuple #[.string (inN s).1, .agg (Uv (inN s).2)]) /\ Below w.heap.size w w' := by
 have hz := Jfb s;have HF := hid (show inN s = if (JD s).1.code = 0 then (Uc 10 (JD s).2, Jv) else (⟨#[]⟩, (JD s).1) from rfl);have hf0 := Jca s;have HI := hid (fun (w' : World) (h : Below w.heap.size w w') => Vt s w' hs (hV.below h) (hT.below h) (hE.below h) (hM.below h));obtain ⟨r, hr⟩ : ∃ r, r = JD s := ⟨_, rfl⟩
 rw [<- hr] at HI HF hz hf0;obtain ⟨b, hb⟩ : ∃ b, b = inN s := ⟨_, rfl⟩
 rw [<- hb] at HF ⊢;clear hr hb;obtain ⟨⟨fc, fa, fp⟩, t⟩ := r;simp only at HF hz hf0;have hrf : Uv (⟨fc, fa, fp⟩ : Flt) = #[.int .i64 fc, .int .i64 fa, .string fp] := rfl;go_enter Tryz.func15, Tryz.ntmps15
 go_wp2_with fail
 refine (HI.out _ Jj).mono ?_;rintro e w1 ⟨cs, rfl, hO1, hb1⟩;have HC1 := hid (hO1.toC (fun _ h => h));obtain ⟨U4, u44, U5, u55, rfl, -⟩ := hO1.flat;simp only [hrf];clear hO1 hrf;have X0 : w1.heap[w.heap.size]? = some (.cells #[.int .i64 0, .int .i64 0, .string ⟨#[]⟩] 23 (0, 0)) := (hb1.block _ (by simp)).trans (Je rfl);have hb01 : Below w.heap.size w w1 := Below.trans Jj (hb1.mono (by simp))
 have l0 := Ja X0;have HX0 := hid X0;have HB01 := hid hb01;clear hb1 X0 hb01;go_upto_region 2 with fail
 obtain ⟨w2, hw2⟩ : ∃ W, W = (w1.alloc (.cells #[.int .i64 t.kind, .bool t.flag, .int .i64 t.num, .string t.text, .slice U4 t.keys.length u44, .slice U5 t.kids.length u55] 34)).alloc (.cells #[.int .i64 fc, .int .i64 fa, .string fp] 23) := ⟨_, rfl⟩
 have hb2 : Below w1.heap.size w1 w2 := by rw [hw2]; exact Jj
 have X1 : w2.heap[w1.heap.size]? = some (.cells #[.int .i64 t.kind, .bool t.flag, .int .i64 t.num, .string t.text, .slice U4 t.keys.length u44, .slice U5 t.kids.length u55] 34 (0, 0)) := by rw [hw2]; exact (Below.heap_alloc _ _ _ (by simp)).trans (Je rfl)
 have X2 : w2.heap[w1.heap.size + 1]? = some (.cells #[.int .i64 fc, .int .i64 fa, .string fp] 23 (0, 0)) := by rw [hw2]; exact Je (by simp)
 rw [<- hw2];have s2 := hb2.size;have HX1 := hid X1;have HX2 := hid X2;have HX02 := hid ((hb2.block _ l0).trans HX0.out);have HB02 := hid (HB01.out.trans (hb2.mono HB01.out.size));have hz01 := HB01.out.size;have HC2 := hid ((HC1.out.keep (VY hb2) (Nat.zero_le _) hb2.size : C_Tree 10 0 w2.heap.size w2 t _));have l1 := Ja X1;have l2 := Ja X2;obtain ⟨x0, x1, x2, x3, x4, x5, xf⟩ := Jf X1
 obtain ⟨y0, y1, y2, yf⟩ := Qi X2;obtain ⟨z0, z1, z2, zf⟩ := Qi HX02.out;have l02 := Ja HX02.out;clear hw2 hb2 X1 X2 HC1 HX0 HB01;have q1 : (fc == 0) = false ∨ (fc == 0) = true := by rcases (fc == 0) with _ | _ <;> simp
 rcases q1 with q1 | q1
 ·have hne : fc ≠ 0 := fun e => by rw [e] at q1; cases q1
  have HX := hid (show b = (⟨#[]⟩, ⟨fc, fa, fp⟩) by rw [HF.out, if_neg hne]);clear hne hf0;go_upto_region 3 with fail
  go_region_law fail
  go_wp2_with fail
  have hb2 := HB02.out;all_goals exact bodyPost_ret (v := .tuple #[.string ⟨#[]⟩, .agg #[.int .i64 fc, .int .i64 fa, .string fp]]) (by simp only [results, Tryz.results15]; go_simp) rfl ⟨by rw [HX.out]; rfl, Jj⟩
 have he : fc = 0 := by simpa using q1
 have HX := hid (show b = (Uc 10 t, Jv) by rw [HF.out, if_pos he]);have h0 := hf0 he;unfold Jv at h0;injection h0 with e1 e2 e3
 subst e1 e2 e3;clear hf0 he;have HT := hid (fun (w' : World) (h : Below w2.heap.size w2 w') => Wr 10 t _ w' 0 (HC2.out.now h) hz (hT.below (HB02.out.trans (h.mono HB02.out.size))) (hP.below (HB02.out.trans (h.mono HB02.out.size))));go_wp2_with fail
 refine (HT.out _ Jj).mono ?_;rintro e w3 ⟨rfl, hb3⟩;have h23 : Below w2.heap.size w2 w3 := Below.trans Jj (hb3.mono (by simp));have h03 := HB02.out.trans (h23.mono HB02.out.size);have X0 := (h23.block _ l02).trans HX02.out;have X2 := (h23.block _ l2).trans HX2.out;obtain ⟨u0, u1, u2, uf⟩ := Qi X2;obtain ⟨v0, v1, v2, vf⟩ := Qi X0;have l03 := Ja X0;have l23 := Ja X2;clear y0 y1 y2 yf z0 z1 z2 zf x0 x1 x2 x3 x4 x5 xf
 go_wp2_with fail
 have hb2 := HB02.out;all_goals exact bodyPost_ret (v := .tuple #[.string (Uc 10 t), .agg #[.int .i64 0, .int .i64 0, .string ⟨#[]⟩]]) (by simp only [results, Tryz.results15]; go_simp) rfl ⟨by rw [HX.out]; rfl, Jj⟩
def okI (s : ByteArray) : Bool := (JD s).1.code == 0
theorem Xn (s : ByteArray) (w : World) (hs : s.size <= 1048576) (hV : CTab w) (hT : Tabs w) (hE : ErrR w) (hM : MaxL w) :
  Calls Tryz.prog 21 #[.string s] w fun e w' => e = .returned (.bool (okI s)) /\ Below w.heap.size w w' := by
 have HI := hid (Vt s w hs hV hT hE hM);have HF := hid (show okI s = ((JD s).1.code == 0) from rfl);obtain ⟨r, hr⟩ : ∃ r, r = JD s := ⟨_, rfl⟩
 rw [<- hr] at HI HF;clear hV hT hE hM hr;obtain ⟨⟨fc, fa, fp⟩, t⟩ := r;go_enter Tryz.func21, Tryz.ntmps21
 go_wp2_with fail
 refine HI.out.mono ?_;rintro e w1 ⟨cs, rfl, hO, hb1⟩;obtain ⟨U4, u44, U5, u55, rfl, -⟩ := hO.flat;clear hO;have hrf : Uv (⟨fc, fa, fp⟩ : Flt) = #[.int .i64 fc, .int .i64 fa, .string fp] := rfl;simp only [hrf];clear hrf;go_wp2_with fail
 go_ret
 exact ⟨JB HF.out.symm, Jj⟩
end Go.Proofs.YtohcpifekcehjaaGreatDoor
