/- Steps to FnCrossed. No conditions. -/
import Derived.Test.YtohcpifekcehjaaGreatDoorKfcr10
import Derived.Test.YtohcpifekcehjaaGreatDoorKfcr3
import Derived.Test.YtohcpifekcehjaaGreatDoorKfcr1
import Derived.Deep.CutRange
import Derived.Deep.CutBlock
import Derived.Test.YtohcpifekcehjaaGreatDoorKfcr5
import Derived.Test.YtohcpifekcehjaaGreatDoorKfcr8
import Derived.Test.YtohcpifekcehjaaGreatDoorKfcr2
set_option maxHeartbeats 16000000
set_option maxRecDepth 20000
namespace Go.Proofs.YtohcpifekcehjaaGreatDoor
open Go.RowKit
def Pow (w : World) : Prop := Lib.TabIs Tryz.prog w "internal/strconv.uint64pow10" .u64 Lib.pow10Tab
theorem Pow.below {w w' : World} (h : Pow w) (hb : Below w.heap.size w w') : Pow w' := by
 unfold Pow Lib.TabIs World.var? at h ⊢;cases hg : Tryz.prog.globalNamed "internal/strconv.uint64pow10" with
 | none => rw [hg] at h; cases h
 | some g =>
  rw [hg] at h;simp only [Option.bind_some] at h ⊢
  have hlt : g < w.heap.size := by
   rcases Nat.lt_or_ge g w.heap.size with h' | h'
   ·exact h'
   ·rw [Array.getElem?_eq_none h'] at h
    cases h
  rw [hb.block g hlt];exact h
theorem below_grow (w : World) (k : Nat) (os : Array Obj) : Below w.heap.size w (Go.Sort.grow (w.drewN k) os) :=
 ⟨rfl, rfl, rfl, by show w.heap.size <= (w.heap ++ os).size; simp, fun i hi => by
  show (w.heap ++ os)[i]? = w.heap[i]?
  rw [Array.getElem?_append_left hi]⟩
theorem c_strconv_Itoa (n : Int) (w : World) (hn : -9223372036854775808 <= n /\ n <= 9223372036854775807) (hp : Pow w) :
  Calls Tryz.prog 128 #[.int .i64 n] w fun e w' => e = .returned (.string (decS n)) /\ Below w.heap.size w w' := by
 have h := Any.strconv_Itoa laysItoa n hn.1 hn.2 w hp;change Calls Tryz.prog 128 _ _ _ at h
 refine h.mono ?_;rintro e w' ⟨rfl, k, os, rfl⟩;exact ⟨rfl, below_grow w k os⟩
theorem c_impl_Decimal (n : Int) (w : World) (hn : -9223372036854775808 <= n /\ n <= 9223372036854775807) (hp : Pow w) :
  Calls Tryz.prog 70 #[.int .i64 n] w fun e w' => e = .returned (.string (decS n)) /\ Below w.heap.size w w' := by
 have Hp := Lib.hid hp;clear hp;go_enter Tryz.func70, Tryz.ntmps70
 go_wp2_with fail
 refine (c_strconv_Itoa n _ hn Hp.out).mono ?_;rintro e w1 ⟨rfl, hb⟩;go_wp2_with fail
 go_ret
 exact ⟨rfl, hb⟩
theorem C_Tree.old {n lo hi : Nat} {w w' : World} {d : TreeD} {cs : List Value} (h : C_Tree n lo hi w d cs) (hb : Below hi w w') : C_Tree n lo hi w' d cs := h.keep (same_below hb) (Nat.le_refl _) (Nat.le_refl _)
open Go.RowKit Go.Lib
def T_sayI (n : Nat) : Prop := ∀ (d : TreeD) (cs : List Value) (w w0 : World) (lo base nn c : Nat) (A : Option Addr) (M : List UInt8), C_Tree n lo base w d cs -> shapeT n d = true -> base <= w.heap.size -> nn + 5000 * sizeT n d <= 1073741824 -> BufN base w M nn (.slice A nn c) -> Tabs w0 -> Pow w0 -> w0.heap.size <= base -> Below w0.heap.size w0 w ->
  Calls Tryz.prog 86 #[.slice A nn c, .agg cs.toArray] w fun e w' => ∃ (A' : Option Addr) (c' : Nat), e = .returned (.slice A' (nn + (sayL n d).length) c') /\ BufN base w' (M ++ sayL n d) (nn + (sayL n d).length) (.slice A' (nn + (sayL n d).length) c') /\ Grb w (.slice A nn c) w' (.slice A' (nn + (sayL n d).length) c')
theorem of_sayI (n : Nat) (ih : T_sayI n) : T_sayI (n + 1) := by
 intro d cs w w0 lo base nn c A M h hsh hbw hsz hbuf hTab hPow hw0 hb00;have hlen := say_len (n + 1) d hsh (num_of h);have hS := sayL_succ n d;have HSh := hid hsh;have HNum := hid (num_of h);obtain ⟨v4, v5, rfl, a0, a2, a3, a4, a5⟩ := C_Tree.out h;obtain ⟨A4, c4, rfl, hlk, hck, hK⟩ := a4;obtain ⟨A5, c5, rfl, hlc, hcc, hA⟩ := a5;have hsk : ∀ k t, d.kids[k]? = some t -> szL (sizeT n) (d.kids.take k) + sizeT n t + 1 <= sizeT (n + 1) d := fun k t ht => size_kid ht
 have HSk := hid hsk;have hbd : badH d = false := (shape_parts hsh).1;have hls : lensOk d = true := (shape_parts hsh).2.2.1;have HTP := hid (And.intro hTab hPow);have HB00 := hid hb00;clear h hTab hPow hsk hsh hb00;obtain ⟨S, hSz⟩ : ∃ S, S = sizeT (n + 1) d := ⟨_, rfl⟩
 rw [<- hSz] at hlen hsz HSk;obtain ⟨r, hr⟩ : ∃ r, r = sayL (n + 1) d := ⟨_, rfl⟩
 rw [<- hr] at hlen hS ⊢;have HS := hid hS;have HSz := hid (show S = 1 + szL (sizeT n) d.kids from hSz);clear hr hS hSz;obtain ⟨dk, df, dn, dt, dks, dkd⟩ := d;simp only at a0 a2 a3 hlk hK hlc hA HS HSk HSz hbd hls ⊢;unfold badH at hbd;unfold lensOk at hls;simp only [Bool.or_eq_false_iff, Bool.not_eq_false', Bool.and_eq_false_iff] at hbd;have hin : inB dk 1 6 = true := hbd.1.1.1.1.1;have hk6 : 1 <= dk /\ dk <= 6 := by unfold inB at hin; exact of_decide_eq_true hin
 obtain ⟨W0, hW0⟩ : ∃ W, W = w.alloc (.cells #[.int .i64 dk, .bool df, .int .i64 dn, .string dt, .slice A4 dks.length c4, .slice A5 dkd.length c5] 34) := ⟨_, rfl⟩
 have hB0 : Below w.heap.size w W0 := by rw [hW0]; exact bel
 have HR0 := hid (show W0.heap[w.heap.size]? = some (.cells #[.int .i64 dk, .bool df, .int .i64 dn, .string dt, .slice A4 dks.length c4, .slice A5 dkd.length c5] 34 (0, 0)) by rw [hW0]; exact heap_at rfl);have HW0 := hid hW0;have hbuf0 := hbuf.below hB0;have hbW0 : base <= W0.heap.size := Nat.le_trans hbw hB0.size;have hG0 := hid (Grb.of (.slice A nn c) hB0);have HBf0 := hid hbuf0;have HbW := hid (HB00.out.trans (hB0.mono (Nat.le_trans hw0 hbw)))
 have Hbd := hid hbd;clear hW0 hin hbd;obtain ⟨x0, x1, x2, x3, x4, x5, xf⟩ := row6 HR0.out;have l0 := row_lt HR0.out;by_cases k1 : dk = 1
 ·subst k1
  have HX := hid (show r = litN from HS.out);obtain ⟨A6, c6, w5, hr5, h5, g5⟩ := bufN_str W0 base nn c A M ⟨#[110, 117, 108, 108]⟩ hbuf0 (by show nn + 4 <= _; omega) hbW0;have H5 := hid (And.intro h5 (hG0.out.trans g5));clear h5 g5 hK hA;go_enter Tryz.func86, Tryz.ntmps86
  go_upto_region 1 with fail
  rw [<- HW0.out];go_wp2_with (at_builtin; refine wpList_append_to rfl (.tmp 13) (.const (.string ⟨#[110, 117, 108, 108]⟩)) 28 9 rfl _ _ _ w5 rfl rfl hr5 ?_)
  go_ret
  rw [HX.out];exact ⟨A6, c6, rfl, H5.out.1, H5.out.2⟩
 by_cases k2 : dk = 2
 ·subst k2
  have HX := hid (show r = boolL df from HS.out);clear hK hA;go_enter Tryz.func86, Tryz.ntmps86
  go_upto_region 1 with fail
  rw [<- HW0.out];go_wp2_with fail
  refine (c_AppendBool df W0 base nn c A M HBf0.out (by omega) hbW0).mono ?_;rintro e w5 ⟨A6, c6, rfl, h5, g5⟩;have H5 := hid (And.intro h5 (hG0.out.trans g5));clear h5 g5;go_wp2_with fail
  go_ret
  rw [HX.out];exact ⟨A6, c6, rfl, H5.out.1, H5.out.2⟩
 by_cases k3 : dk = 3
 ·subst k3
  have HX := hid (show r = (decS dn).data.toList from HS.out);have hds := decS_size dn a2;clear hK hA;go_enter Tryz.func86, Tryz.ntmps86
  go_upto_region 1 with fail
  rw [<- HW0.out];go_wp2_with fail
  refine (c_impl_Decimal dn W0 a2 (HTP.out.2.below HbW.out)).mono ?_;rintro e w4 ⟨rfl, hb4⟩;obtain ⟨A6, c6, w5, hr5, h5, g5⟩ := bufN_str w4 base nn c A M (decS dn) (HBf0.out.below hb4) (by omega) (Nat.le_trans hbW0 hb4.size);have H5 := hid (And.intro h5 ((hG0.out.trans (Grb.of _ hb4)).trans g5));clear h5 g5 hb4;go_wp2_with (at_builtin; refine wpList_append_to rfl (.tmp 23) (.tmp 26) 28 9 rfl _ _ _ w5 rfl rfl hr5 ?_)
  go_ret
  rw [HX.out, show (decS dn).data.toList.length = (decS dn).size from Array.length_toList];exact ⟨A6, c6, rfl, H5.out.1, H5.out.2⟩
 by_cases k4 : dk = 4
 ·subst k4
  have HX := hid (show r = (quoteB dt).data.toList from HS.out);have hds := quote_len dt;have hqe : (quoteB dt).data.toList.length = (quoteB dt).size := Array.length_toList
  have hst : dt.size <= 400 := by
   have h2 := (shape_parts HSh.out).2.1;unfold strB at h2;simp only [Bool.and_eq_true, decide_eq_true_eq] at h2;exact h2.1
  clear hK hA;go_enter Tryz.func86, Tryz.ntmps86
  go_upto_region 1 with fail
  rw [<- HW0.out];go_wp2_with fail
  refine (c_impl_Quoted dt W0 (by omega) (HTP.out.1.below HbW.out)).mono ?_;rintro e w4 ⟨rfl, hb4⟩;obtain ⟨A6, c6, w5, hr5, h5, g5⟩ := bufN_str w4 base nn c A M (quoteB dt) (HBf0.out.below hb4) (by omega) (Nat.le_trans hbW0 hb4.size);have H5 := hid (And.intro h5 ((hG0.out.trans (Grb.of _ hb4)).trans g5));clear h5 g5 hb4 hqe;go_wp2_with (at_builtin; refine wpList_append_to rfl (.tmp 30) (.tmp 33) 28 9 rfl _ _ _ w5 rfl rfl hr5 ?_)
  go_ret
  rw [HX.out, show (quoteB dt).data.toList.length = (quoteB dt).size from Array.length_toList];exact ⟨A6, c6, rfl, H5.out.1, H5.out.2⟩
 have e1 : (dk == 1) = false := beq_eq_false_iff_ne.2 k1;have e2 : (dk == 2) = false := beq_eq_false_iff_ne.2 k2;have e3 : (dk == 3) = false := beq_eq_false_iff_ne.2 k3;have e4 : (dk == 4) = false := beq_eq_false_iff_ne.2 k4;by_cases k5 : dk = 5
 ·subst k5
  have HX := hid (show r = [91] ++ itemsT (fun _ => []) (sayL n) dkd dkd.length ++ [93] from HS.out);obtain ⟨A6, c6, w5, hr5, h5, g5⟩ := bufN_lit W0 base nn c 1 A M [91] [.int .u8 91] hbuf0 rfl rfl (by omega) (by decide) hbW0;have H5 := hid (And.intro h5 g5);have hrow5 := (g5.keep l0 (fun e => by have := (hbuf.lt e).2; omega)).trans HR0.out;have HR5 := hid hrow5;have hs5 := g5.grown.size
  clear h5 g5 hrow5 k1 k2 k3 k4;go_enter Tryz.func86, Tryz.ntmps86
  go_upto_region 1 with fail
  rw [<- HW0.out];go_upto_region 14 with (at_builtin; refine wpList_append_of rfl (.tmp 38) (.tmp 40) 28 rfl _ _ _ w5 rfl rfl hr5 ?_)
  clear x0 x1 x2 x3 x4 x5 xf;obtain ⟨x0, x1, x2, x3, x4, x5, xf⟩ := row6 HR5.out;have l5 := row_lt HR5.out;go_wp2_with fail
  go_loopw [0, 45] (fun s0 v wr => ∃ (k N : Nat) (A' : Option Addr) (c' : Nat), k <= dkd.length /\ v = .int .i64 k /\ s0 = .slice A' N c' /\ BufN base wr (M ++ ([91] ++ itemsT (fun _ => []) (sayL n) dkd k)) N (.slice A' N c') /\ Grb W0 (.slice A nn c) wr (.slice A' N c') /\ wr.heap[w.heap.size]? = some (.cells #[.int .i64 5, .bool df, .int .i64 dn, .string dt, .slice A4 dks.length c4, .slice A5 dkd.length c5] 34 (0, 0))) (fun _ v _ => dkd.length - (Lib.intOf v).toNat)
  case atStart => exact ⟨0, nn + 1, A6, c6, Nat.zero_le _, rfl, rfl, H5.out.1, H5.out.2, HR5.out⟩
  case round =>
   clear x0 x1 x2 x3 x4 x5 xf l5 hs5;obtain ⟨k, N, A', c', hk, rfl, rfl, hbf, hgr, hT⟩ := hrel;have HT := hid hT;have HBf := hid hbf;have HGr := hid hgr;have hbr : Below base w wr := (hG0.out.trans hgr).below hbuf.2 hbw
   have hitl := items_len (pre := (fun _ => [])) (f := sayL n) (g := sizeT n) (l := dkd) (fun _ => Nat.zero_le _) (fun t ht => by
    obtain ⟨i, hi⟩ := List.getElem?_of_mem ht
    exact say_len n t (shape_kid HSh.out hi) (HNum.out.2 t ht)) k hk
   have hNl : N = nn + (1 + (itemsT (fun _ => []) (sayL n) dkd k).length) := by
    rw [hbf.1, List.length_append, List.length_append, <- hbuf.1]; rfl
   have hbwr : base <= wr.heap.size := Nat.le_trans hbW0 hgr.grown.size;have HNl := hid hNl;have hNb : N <= nn + 1 + 5000 * szL (sizeT n) (dkd.take k) := by omega
   clear hT hbf hgr hNl hitl;obtain ⟨x0, x1, x2, x3, x4, x5, xf⟩ := row6 HT.out;have l1 := row_lt HT.out;by_cases hlt : k < dkd.length
   ·obtain ⟨p, o, rfl, -, hbl, hcell⟩ := hA (by omega)
    obtain ⟨t, ht⟩ := exists_at hlt;obtain ⟨es, -, hcs, hC⟩ := hcell k t ht;obtain ⟨eA4, ec4, eA5, ec5, rfl, ea0, ea2, ea3⟩ := hC.flat;have hc0 := (hbr.cell (p := ⟨p, o + k * 6 + 0, none⟩) (by simp; omega)).trans (hcs 0 (by omega));simp at hc0;have hc1 := (hbr.cell (p := ⟨p, o + k * 6 + 1, none⟩) (by simp; omega)).trans (hcs 1 (by omega));simp at hc1;have hc2 := (hbr.cell (p := ⟨p, o + k * 6 + 2, none⟩) (by simp; omega)).trans (hcs 2 (by omega))
    simp at hc2;have hc3 := (hbr.cell (p := ⟨p, o + k * 6 + 3, none⟩) (by simp; omega)).trans (hcs 3 (by omega));simp at hc3;have hc4 := (hbr.cell (p := ⟨p, o + k * 6 + 4, none⟩) (by simp; omega)).trans (hcs 4 (by omega));simp at hc4;have hc5 := (hbr.cell (p := ⟨p, o + k * 6 + 5, none⟩) (by simp; omega)).trans (hcs 5 (by omega));simp at hc5;have hbr1 : p < wr.heap.size := by omega
    have hk0 : (0 : Int) <= k := by omega
    have hk1 : (k : Int) < dkd.length := by omega
    have hsk := HSk.out k t ht;have HC := hid hC;have HIt := hid (items_next (pre := (fun _ => [])) (f := sayL n) ht);have HSt := hid (shape_kid HSh.out ht);have hsayl := say_len n t (shape_kid HSh.out ht) (HNum.out.2 t (List.mem_of_getElem? ht))
    have hneA : ∀ q, (Value.slice A' N c').ownBlock = some q -> q ≠ w.heap.size /\ q < wr.heap.size := fun q hq => by
     refine ⟨?_, (HBf.out.lt hq).2⟩;rcases HGr.out.at' q hq with h1 | h1
     ·have := (hbuf.lt h1).2
      omega
     ·have := row_lt HR0.out
      omega
    have HneA := hid hneA;have hszk : N + 1 + 2404 + 5000 * sizeT n t <= 1073741824 := by omega
    have HKx := hid (trivial);clear hcs hcell hA hC ht hneA hK;go_upto_if 51 with fail
    obtain ⟨wk, hwk⟩ : ∃ W, W = wr.alloc (.cells #[.int .i64 t.kind, .bool t.flag, .int .i64 t.num, .string t.text, .slice eA4 t.keys.length ec4, .slice eA5 t.kids.length ec5] 34) := ⟨_, rfl⟩
    have hbk : Below wr.heap.size wr wk := by rw [hwk]; exact bel
    have X8 : wk.heap[wr.heap.size]? = some (.cells #[.int .i64 t.kind, .bool t.flag, .int .i64 t.num, .string t.text, .slice eA4 t.keys.length ec4, .slice eA5 t.kids.length ec5] 34 (0, 0)) := by rw [hwk]; exact heap_at rfl
    rw [<- hwk];have HX8 := hid X8;have HTk := hid ((hbk.block _ l1).trans HT.out);have HBk := hid (HBf.out.below hbk);have HGk := hid (HGr.out.trans (Grb.of (.slice A' N c') hbk));have hsk2 := hbk.size;have hlk := row_lt X8;clear hwk hbk X8 x0 x1 x2 x3 x4 x5 xf hc0 hc1 hc2 hc3 hc4 hc5;go_cut [0] from 50 to 54 (fun s0 wx => ∃ (A1 : Option Addr) (c1 N1 : Nat), s0 = .slice A1 N1 c1 /\ N1 <= N + 1 /\ BufN base wx (M ++ ([91] ++ itemsT (fun _ => []) (sayL n) dkd k) ++ (if k = 0 then [] else [44])) N1 (.slice A1 N1 c1) /\ Grb wk (.slice A' N c') wx (.slice A1 N1 c1))
    case first =>
     by_cases hk00 : k = 0
     ·have d0 : decide (0 < k) = false := decide_eq_false (by omega)
      have dI : decide ((0 : Int) < k) = false := decide_eq_false (by omega);have HP := hid (show (if k = 0 then ([] : List UInt8) else [44]) = [] from if_pos hk00);have hp0 : ¬ 0 < k := by omega
      clear hk00 d0 dI;go_wp2_with fail
      go_meet
      exact ⟨A', c', N, rfl, by omega, by rw [HP.out, List.append_nil]; exact HBk.out, Grb.of _ (Below.refl _ _)⟩
     ·have d0 : decide (0 < k) = true := decide_eq_true (by omega)
      have dI : decide ((0 : Int) < k) = true := decide_eq_true (by omega);have HP := hid (show (if k = 0 then ([] : List UInt8) else [44]) = [44] from if_neg hk00);have hp0 : 0 < k := by omega
      clear hk00 d0 dI;obtain ⟨A7, c7, w7, hr7, h7, g7⟩ := bufN_lit wk base N c' 1 A' _ [44] [.int .u8 44] HBk.out rfl rfl (by omega) (by decide) (by omega);have H7 := hid (And.intro h7 g7);clear h7 g7;go_wp2_with (at_builtin; refine wpList_append_of rfl (.tmp 52) (.tmp 53) 28 rfl _ _ _ w7 rfl rfl hr7 ?_)
      go_meet
      exact ⟨A7, c7, N + 1, rfl, Nat.le_refl _, by rw [HP.out]; exact H7.out.1, H7.out.2⟩
    case rest =>
     obtain ⟨A1, c1, N1, rfl, hN1, hb1, hg1⟩ := hcut;have HT1 := hid ((hg1.keep (by omega) (fun e => (HneA.out _ e).1 rfl)).trans HTk.out);have HX1 := hid ((hg1.keep hlk (fun e => Nat.lt_irrefl _ (HneA.out _ e).2)).trans HX8.out);have HB1 := hid hb1;have HG1 := hid hg1;have hs1 := hg1.grown.size
     have HA1 := hid (show ∀ q, (Value.slice A1 N1 c1).ownBlock = some q -> q ≠ w.heap.size /\ q ≠ wr.heap.size from fun q hq => by
      rcases hg1.at' q hq with h1 | h1
      ·have := HneA.out q h1
       omega
      ·omega)
     clear hb1 hg1;obtain ⟨x0, x1, x2, x3, x4, x5, xf⟩ := row6 HT1.out;obtain ⟨y0, y1, y2, y3, y4, y5, yf⟩ := row6 HX1.out;have lx := row_lt HT1.out;have ly := row_lt HX1.out;go_wp2_with fail
     refine (ih t _ wc w0 lo base N1 c1 A1 _ (HC.out.old (((hG0.out.trans HGk.out).trans (HG1.out)).below hbuf.2 hbw)) HSt.out (by omega) (by omega) HB1.out HTP.out.1 HTP.out.2 hw0 (HB00.out.trans ((((hG0.out.trans HGk.out).trans (HG1.out)).below hbuf.2 hbw).mono hw0))).mono ?_;rintro e w9 ⟨A9, c9, rfl, h9, g9⟩;have HT9 := hid ((g9.keep lx (fun e => (HA1.out _ e).1 rfl)).trans HT1.out);have H9 := hid h9
     have HG9 := hid ((HGk.out.trans (HG1.out)).trans g9);clear h9 g9;go_wp2_with fail
     go_roundw
     case rel => exact ⟨k + 1, N1 + (sayL n t).length, A9, c9, by omega, by go_num, rfl, by rw [HIt.out]; simpa only [List.append_assoc, List.nil_append] using H9.out, HG9.out, HT9.out⟩
     case measure => simp [Lib.intOf]; omega
   ·obtain rfl : k = dkd.length := by omega
    have hke : decide (dkd.length < dkd.length) = false := decide_eq_false (Nat.lt_irrefl _)
    have hNz : N <= 1073741824 := by
     have := hNb;rw [List.take_of_length_le (Nat.le_refl _)] at this;have h2 : S = 1 + szL (sizeT n) dkd := HSz.out;omega
    obtain ⟨A7, c7, w7, hr7, h7, g7⟩ := bufN_lit wr base N c' 1 A' _ [93] [.int .u8 93] HBf.out rfl rfl (by omega) (by decide) hbwr;have H7 := hid (And.intro h7 (hG0.out.trans (HGr.out.trans g7)));have HN7 := hid (show N + 1 = nn + r.length by rw [HX.out, HNl.out]; simp only [List.length_append, List.length_cons, List.length_nil]; omega);clear h7 g7 hA hK;go_wp2_with (at_builtin; refine wpList_append_of rfl (.tmp 71) (.tmp 73) 28 rfl _ _ _ w7 rfl rfl hr7 ?_)
    go_ret
    rw [<- HN7.out, HX.out];exact ⟨A7, c7, rfl, by rw [List.append_assoc] at H7; rw [<- HX.out] at *; exact H7.out.1, H7.out.2⟩
 ·have k6 : dk = 6 := by omega
  subst k6;have HX := hid (show r = [123] ++ itemsT (preM dks) (sayL n) dkd dkd.length ++ [125] from HS.out);have HLL := hid (show dks.length = dkd.length by simpa using hls);clear hls;obtain ⟨A6, c6, w5, hr5, h5, g5⟩ := bufN_lit W0 base nn c 1 A M [123] [.int .u8 123] hbuf0 rfl rfl (by omega) (by decide) hbW0;have H5 := hid (And.intro h5 g5);have hrow5 := (g5.keep l0 (fun e => by have := (hbuf.lt e).2; omega)).trans HR0.out
  have HR5 := hid hrow5;have hs5 := g5.grown.size;clear h5 g5 hrow5 k1 k2 k3 k4;go_enter Tryz.func86, Tryz.ntmps86
  go_upto_region 1 with fail
  rw [<- HW0.out];go_upto_region 14 with (at_builtin; refine wpList_append_of rfl (.tmp 38) (.tmp 40) 28 rfl _ _ _ w5 rfl rfl hr5 ?_)
  clear x0 x1 x2 x3 x4 x5 xf;obtain ⟨x0, x1, x2, x3, x4, x5, xf⟩ := row6 HR5.out;have l5 := row_lt HR5.out;go_wp2_with fail
  go_loopw [0, 45] (fun s0 v wr => ∃ (k N : Nat) (A' : Option Addr) (c' : Nat), k <= dkd.length /\ v = .int .i64 k /\ s0 = .slice A' N c' /\ BufN base wr (M ++ ([123] ++ itemsT (preM dks) (sayL n) dkd k)) N (.slice A' N c') /\ Grb W0 (.slice A nn c) wr (.slice A' N c') /\ wr.heap[w.heap.size]? = some (.cells #[.int .i64 6, .bool df, .int .i64 dn, .string dt, .slice A4 dks.length c4, .slice A5 dkd.length c5] 34 (0, 0))) (fun _ v _ => dkd.length - (Lib.intOf v).toNat)
  case atStart => exact ⟨0, nn + 1, A6, c6, Nat.zero_le _, rfl, rfl, H5.out.1, H5.out.2, HR5.out⟩
  case round =>
   clear x0 x1 x2 x3 x4 x5 xf l5 hs5;obtain ⟨k, N, A', c', hk, rfl, rfl, hbf, hgr, hT⟩ := hrel;have HT := hid hT;have HBf := hid hbf;have HGr := hid hgr;have hbr : Below base w wr := (hG0.out.trans hgr).below hbuf.2 hbw
   have hitl := items_len (pre := (preM dks)) (f := sayL n) (g := sizeT n) (l := dkd) (pre_len HSh.out) (fun t ht => by
    obtain ⟨i, hi⟩ := List.getElem?_of_mem ht
    exact say_len n t (shape_kid HSh.out hi) (HNum.out.2 t ht)) k hk
   have hNl : N = nn + (1 + (itemsT (preM dks) (sayL n) dkd k).length) := by
    rw [hbf.1, List.length_append, List.length_append, <- hbuf.1]; rfl
   have hbwr : base <= wr.heap.size := Nat.le_trans hbW0 hgr.grown.size;have HNl := hid hNl;have hNb : N <= nn + 1 + 5000 * szL (sizeT n) (dkd.take k) := by omega
   clear hT hbf hgr hNl hitl;obtain ⟨x0, x1, x2, x3, x4, x5, xf⟩ := row6 HT.out;have l1 := row_lt HT.out;by_cases hlt : k < dkd.length
   ·obtain ⟨p, o, rfl, -, hbl, hcell⟩ := hA (by omega)
    obtain ⟨t, ht⟩ := exists_at hlt;obtain ⟨es, -, hcs, hC⟩ := hcell k t ht;obtain ⟨eA4, ec4, eA5, ec5, rfl, ea0, ea2, ea3⟩ := hC.flat;have hc0 := (hbr.cell (p := ⟨p, o + k * 6 + 0, none⟩) (by simp; omega)).trans (hcs 0 (by omega));simp at hc0;have hc1 := (hbr.cell (p := ⟨p, o + k * 6 + 1, none⟩) (by simp; omega)).trans (hcs 1 (by omega));simp at hc1;have hc2 := (hbr.cell (p := ⟨p, o + k * 6 + 2, none⟩) (by simp; omega)).trans (hcs 2 (by omega))
    simp at hc2;have hc3 := (hbr.cell (p := ⟨p, o + k * 6 + 3, none⟩) (by simp; omega)).trans (hcs 3 (by omega));simp at hc3;have hc4 := (hbr.cell (p := ⟨p, o + k * 6 + 4, none⟩) (by simp; omega)).trans (hcs 4 (by omega));simp at hc4;have hc5 := (hbr.cell (p := ⟨p, o + k * 6 + 5, none⟩) (by simp; omega)).trans (hcs 5 (by omega));simp at hc5;have hbr1 : p < wr.heap.size := by omega
    have hk0 : (0 : Int) <= k := by omega
    have hk1 : (k : Int) < dkd.length := by omega
    have hsk := HSk.out k t ht;have HC := hid hC;have HIt := hid (items_next (pre := (preM dks)) (f := sayL n) ht);have HSt := hid (shape_kid HSh.out ht);have hsayl := say_len n t (shape_kid HSh.out ht) (HNum.out.2 t (List.mem_of_getElem? ht))
    have hneA : ∀ q, (Value.slice A' N c').ownBlock = some q -> q ≠ w.heap.size /\ q < wr.heap.size := fun q hq => by
     refine ⟨?_, (HBf.out.lt hq).2⟩;rcases HGr.out.at' q hq with h1 | h1
     ·have := (hbuf.lt h1).2
      omega
     ·have := row_lt HR0.out
      omega
    have HneA := hid hneA;have hszk : N + 1 + 2404 + 5000 * sizeT n t <= 1073741824 := by omega
    have HKx := hid (hK);clear hcs hcell hA hC ht hneA hK;go_upto_if 51 with fail
    obtain ⟨wk, hwk⟩ : ∃ W, W = wr.alloc (.cells #[.int .i64 t.kind, .bool t.flag, .int .i64 t.num, .string t.text, .slice eA4 t.keys.length ec4, .slice eA5 t.kids.length ec5] 34) := ⟨_, rfl⟩
    have hbk : Below wr.heap.size wr wk := by rw [hwk]; exact bel
    have X8 : wk.heap[wr.heap.size]? = some (.cells #[.int .i64 t.kind, .bool t.flag, .int .i64 t.num, .string t.text, .slice eA4 t.keys.length ec4, .slice eA5 t.kids.length ec5] 34 (0, 0)) := by rw [hwk]; exact heap_at rfl
    rw [<- hwk];have HX8 := hid X8;have HTk := hid ((hbk.block _ l1).trans HT.out);have HBk := hid (HBf.out.below hbk);have HGk := hid (HGr.out.trans (Grb.of (.slice A' N c') hbk));have hsk2 := hbk.size;have hlk := row_lt X8;clear hwk hbk X8 x0 x1 x2 x3 x4 x5 xf hc0 hc1 hc2 hc3 hc4 hc5;go_cut [0] from 50 to 54 (fun s0 wx => ∃ (A1 : Option Addr) (c1 N1 : Nat), s0 = .slice A1 N1 c1 /\ N1 <= N + 1 /\ BufN base wx (M ++ ([123] ++ itemsT (preM dks) (sayL n) dkd k) ++ (if k = 0 then [] else [44])) N1 (.slice A1 N1 c1) /\ Grb wk (.slice A' N c') wx (.slice A1 N1 c1))
    case first =>
     by_cases hk00 : k = 0
     ·have d0 : decide (0 < k) = false := decide_eq_false (by omega)
      have dI : decide ((0 : Int) < k) = false := decide_eq_false (by omega);have HP := hid (show (if k = 0 then ([] : List UInt8) else [44]) = [] from if_pos hk00);have hp0 : ¬ 0 < k := by omega
      clear hk00 d0 dI;go_wp2_with fail
      go_meet
      exact ⟨A', c', N, rfl, by omega, by rw [HP.out, List.append_nil]; exact HBk.out, Grb.of _ (Below.refl _ _)⟩
     ·have d0 : decide (0 < k) = true := decide_eq_true (by omega)
      have dI : decide ((0 : Int) < k) = true := decide_eq_true (by omega);have HP := hid (show (if k = 0 then ([] : List UInt8) else [44]) = [44] from if_neg hk00);have hp0 : 0 < k := by omega
      clear hk00 d0 dI;obtain ⟨A7, c7, w7, hr7, h7, g7⟩ := bufN_lit wk base N c' 1 A' _ [44] [.int .u8 44] HBk.out rfl rfl (by omega) (by decide) (by omega);have H7 := hid (And.intro h7 g7);clear h7 g7;go_wp2_with (at_builtin; refine wpList_append_of rfl (.tmp 52) (.tmp 53) 28 rfl _ _ _ w7 rfl rfl hr7 ?_)
      go_meet
      exact ⟨A7, c7, N + 1, rfl, Nat.le_refl _, by rw [HP.out]; exact H7.out.1, H7.out.2⟩
    case rest =>
     obtain ⟨A1, c1, N1, rfl, hN1, hb1, hg1⟩ := hcut;have HT1 := hid ((hg1.keep (by omega) (fun e => (HneA.out _ e).1 rfl)).trans HTk.out);have HX1 := hid ((hg1.keep hlk (fun e => Nat.lt_irrefl _ (HneA.out _ e).2)).trans HX8.out);have HB1 := hid hb1;have HG1 := hid hg1;have hs1 := hg1.grown.size
     have HA1 := hid (show ∀ q, (Value.slice A1 N1 c1).ownBlock = some q -> q ≠ w.heap.size /\ q ≠ wr.heap.size from fun q hq => by
      rcases hg1.at' q hq with h1 | h1
      ·have := HneA.out q h1
       omega
      ·omega)
     clear hb1 hg1;obtain ⟨x0, x1, x2, x3, x4, x5, xf⟩ := row6 HT1.out;obtain ⟨y0, y1, y2, y3, y4, y5, yf⟩ := row6 HX1.out;have lx := row_lt HT1.out;have ly := row_lt HX1.out;have hbwc := ((hG0.out.trans HGk.out).trans HG1.out).below hbuf.2 hbw;obtain ⟨q, oq, rfl, -, hql, hqc⟩ := HKx.out (by have := HLL.out; omega);obtain ⟨s, hs⟩ := exists_at (show k < dks.length by have := HLL.out; omega);obtain ⟨es, -, hcs, rfl, hss⟩ := hqc k s hs
     have hkc := (hbwc.cell (p := ⟨q, oq + k * 1 + 0, none⟩) hql).trans (hcs 0 (by omega));simp at hkc;have hqw : q < wc.heap.size := by have := hG0.out.grown.size; omega
     have hk2 : (k : Int) < dks.length := by have := HLL.out; omega
     have hs4 := shape_key HSh.out hs;have hql2 := quote_len s;have hqe : (quoteB s).data.toList.length = (quoteB s).size := Array.length_toList;have hcat : (quoteB s ++ (⟨#[58]⟩ : ByteArray)).data.toList = (quoteB s).data.toList ++ [58] := by rw [ByteArray.data_append, Array.toList_append]
     have hcsz : (quoteB s ++ (⟨#[58]⟩ : ByteArray)).size = (quoteB s).size + 1 := by rw [ByteArray.size_append]; rfl
     have HPz := hid (show preM dks k = (quoteB s ++ (⟨#[58]⟩ : ByteArray)).data.toList by unfold preM; rw [hs, hcat]);have HQC := hid (c_impl_Quoted s wc (by omega) (HTP.out.1.below (HB00.out.trans (hbwc.mono hw0))));have hb00 : (quoteB s ++ (⟨#[58]⟩ : ByteArray)).size <= 2403 := by omega
     have hb01 : (quoteB s).size <= 2402 := by omega
     clear hcs hqc hs hcat hqe hql2 hbwc;go_wp2_with fail
     refine HQC.out.mono ?_;rintro e w4 ⟨rfl, hb4⟩;have hs44 := hb4.size;obtain ⟨A2, c2, w5, hr5, h5, g5⟩ := bufN_str w4 base N1 c1 A1 _ (quoteB s ++ ⟨#[58]⟩) (HB1.out.below hb4) (by omega) (by omega);rw [hcsz] at hr5 h5 g5;have HT5 := hid ((g5.keep (by omega) (fun e => (HA1.out _ e).1 rfl)).trans ((hb4.block _ lx).trans HT1.out));have HX5 := hid ((g5.keep (by omega) (fun e => (HA1.out _ e).2 rfl)).trans ((hb4.block _ ly).trans HX1.out))
     have HG5 := hid ((HG1.out.trans (Grb.of _ hb4)).trans g5);have HB5 := hid h5;have hs55 := g5.grown.size
     have HA5 := hid (show ∀ q, (Value.slice A2 (N1 + ((quoteB s).size + 1)) c2).ownBlock = some q -> q ≠ w.heap.size from fun q hq => by
      rcases g5.at' q hq with h1 | h1
      ·exact (HA1.out q h1).1
      ·omega)
     clear h5 g5 hb4 hcsz hb00 x0 x1 x2 x3 x4 x5 xf y0 y1 y2 y3 y4 y5 yf;obtain ⟨x0, x1, x2, x3, x4, x5, xf⟩ := row6 HT5.out;obtain ⟨y0, y1, y2, y3, y4, y5, yf⟩ := row6 HX5.out;have lx5 := row_lt HT5.out;have ly5 := row_lt HX5.out;go_wp2_with (at_builtin; refine wpList_append_to rfl (.tmp 58) (.tmp 65) 28 9 rfl _ _ _ w5 rfl rfl hr5 ?_)
     all_goals (try (exfalso; omega))
     refine (ih t _ w5 w0 lo base (N1 + ((quoteB s).size + 1)) c2 A2 _ (HC.out.old (((hG0.out.trans HGk.out).trans (HG5.out)).below hbuf.2 hbw)) HSt.out (by omega) (by omega) HB5.out HTP.out.1 HTP.out.2 hw0 (HB00.out.trans ((((hG0.out.trans HGk.out).trans (HG5.out)).below hbuf.2 hbw).mono hw0))).mono ?_;rintro e w9 ⟨A9, c9, rfl, h9, g9⟩;have HT9 := hid ((g9.keep lx5 (fun e => HA5.out _ e rfl)).trans HT5.out)
     have H9 := hid h9;have HG9 := hid ((HGk.out.trans (HG5.out)).trans g9);clear h9 g9;go_wp2_with fail
     go_roundw
     case rel => exact ⟨k + 1, (N1 + ((quoteB s).size + 1)) + (sayL n t).length, A9, c9, by omega, by go_num, rfl, by rw [HIt.out, HPz.out]; simpa only [List.append_assoc, List.nil_append] using H9.out, HG9.out, HT9.out⟩
     case measure => simp [Lib.intOf]; omega
   ·obtain rfl : k = dkd.length := by omega
    have hke : decide (dkd.length < dkd.length) = false := decide_eq_false (Nat.lt_irrefl _)
    have hNz : N <= 1073741824 := by
     have := hNb;rw [List.take_of_length_le (Nat.le_refl _)] at this;have h2 : S = 1 + szL (sizeT n) dkd := HSz.out;omega
    obtain ⟨A7, c7, w7, hr7, h7, g7⟩ := bufN_lit wr base N c' 1 A' _ [125] [.int .u8 125] HBf.out rfl rfl (by omega) (by decide) hbwr;have H7 := hid (And.intro h7 (hG0.out.trans (HGr.out.trans g7)));have HN7 := hid (show N + 1 = nn + r.length by rw [HX.out, HNl.out]; simp only [List.length_append, List.length_cons, List.length_nil]; omega);clear h7 g7 hA hK;go_wp2_with (at_builtin; refine wpList_append_of rfl (.tmp 71) (.tmp 73) 28 rfl _ _ _ w7 rfl rfl hr7 ?_)
    go_ret
    rw [<- HN7.out, HX.out];exact ⟨A7, c7, rfl, by rw [List.append_assoc] at H7; rw [<- HX.out] at *; exact H7.out.1, H7.out.2⟩
theorem all_sayI : ∀ n, T_sayI n
 | 0 => fun _ _ _ _ _ _ _ _ _ _ h _ _ _ _ _ _ _ _ => (C_Tree.none h).elim
 | n + 1 => of_sayI n (all_sayI n)
def T_sayS (n : Nat) : Prop := ∀ (d : TreeD) (cs : List Value) (w : World) (lo base nn c : Nat) (A : Option Addr) (M : List UInt8), C_Tree n lo base w d cs -> shapeT n d = true -> base <= w.heap.size -> nn + 5000 * sizeT n d <= 1073741824 -> BufN base w M nn (.slice A nn c) ->
  Calls Tryz.prog 85 #[.agg cs.toArray, .slice A nn c] w fun e w' => ∃ (A' : Option Addr) (c' : Nat), e = .returned (.slice A' (nn + (sayL n d).length) c') /\ BufN base w' (M ++ sayL n d) (nn + (sayL n d).length) (.slice A' (nn + (sayL n d).length) c') /\ Grb w (.slice A nn c) w' (.slice A' (nn + (sayL n d).length) c')
theorem of_sayS (n : Nat) (ih : T_sayS n) : T_sayS (n + 1) := by
 intro d cs w lo base nn c A M h hsh hbw hsz hbuf;have hlen := say_len (n + 1) d hsh (num_of h);have hS := sayL_succ n d;have HSh := hid hsh;have HNum := hid (num_of h);obtain ⟨v4, v5, rfl, a0, a2, a3, a4, a5⟩ := C_Tree.out h;obtain ⟨A4, c4, rfl, hlk, hck, hK⟩ := a4;obtain ⟨A5, c5, rfl, hlc, hcc, hA⟩ := a5;have hsk : ∀ k t, d.kids[k]? = some t -> szL (sizeT n) (d.kids.take k) + sizeT n t + 1 <= sizeT (n + 1) d := fun k t ht => size_kid ht
 have HSk := hid hsk;have hbd : badH d = false := (shape_parts hsh).1;have hls : lensOk d = true := (shape_parts hsh).2.2.1;clear h hsk hsh;obtain ⟨S, hSz⟩ : ∃ S, S = sizeT (n + 1) d := ⟨_, rfl⟩
 rw [<- hSz] at hlen hsz HSk;obtain ⟨r, hr⟩ : ∃ r, r = sayL (n + 1) d := ⟨_, rfl⟩
 rw [<- hr] at hlen hS ⊢;have HS := hid hS;have HSz := hid (show S = 1 + szL (sizeT n) d.kids from hSz);clear hr hS hSz;obtain ⟨dk, df, dn, dt, dks, dkd⟩ := d;simp only at a0 a2 a3 hlk hK hlc hA HS HSk HSz hbd hls ⊢;unfold badH at hbd;unfold lensOk at hls;simp only [Bool.or_eq_false_iff, Bool.not_eq_false', Bool.and_eq_false_iff] at hbd;have hin : inB dk 1 6 = true := hbd.1.1.1.1.1;have hk6 : 1 <= dk /\ dk <= 6 := by unfold inB at hin; exact of_decide_eq_true hin
 obtain ⟨W0, hW0⟩ : ∃ W, W = w.alloc (.cells #[.int .i64 dk, .bool df, .int .i64 dn, .string dt, .slice A4 dks.length c4, .slice A5 dkd.length c5] 34) := ⟨_, rfl⟩
 have hB0 : Below w.heap.size w W0 := by rw [hW0]; exact bel
 have HR0 := hid (show W0.heap[w.heap.size]? = some (.cells #[.int .i64 dk, .bool df, .int .i64 dn, .string dt, .slice A4 dks.length c4, .slice A5 dkd.length c5] 34 (0, 0)) by rw [hW0]; exact heap_at rfl);have HW0 := hid hW0;have hbuf0 := hbuf.below hB0;have hbW0 : base <= W0.heap.size := Nat.le_trans hbw hB0.size;have hG0 := hid (Grb.of (.slice A nn c) hB0);have HBf0 := hid hbuf0;have Hbd := hid hbd
 clear hW0 hin hbd;obtain ⟨x0, x1, x2, x3, x4, x5, xf⟩ := row6 HR0.out;have l0 := row_lt HR0.out;by_cases k1 : dk = 1
 ·subst k1
  have HX := hid (show r = litN from HS.out);obtain ⟨A6, c6, w5, hr5, h5, g5⟩ := bufN_str W0 base nn c A M ⟨#[110, 117, 108, 108]⟩ hbuf0 (by show nn + 4 <= _; omega) hbW0;have H5 := hid (And.intro h5 (hG0.out.trans g5));clear h5 g5 hK hA;go_enter Tryz.func85, Tryz.ntmps85
  go_upto_region 1 with fail
  rw [<- HW0.out];go_wp2_with (at_builtin; refine wpList_append_to rfl (.tmp 11) (.const (.string ⟨#[110, 117, 108, 108]⟩)) 28 9 rfl _ _ _ w5 rfl rfl hr5 ?_)
  go_ret
  rw [HX.out];exact ⟨A6, c6, rfl, H5.out.1, H5.out.2⟩
 by_cases k2 : dk = 2
 ·subst k2
  have HX := hid (show r = boolL df from HS.out);clear hK hA;rcases df with _ | _
  focus
   obtain ⟨A6, c6, w5, hr5, h5, g5⟩ := bufN_str W0 base nn c A M ⟨#[102, 97, 108, 115, 101]⟩ hbuf0 (by show nn + 5 <= _; omega) hbW0;have H5 := hid (And.intro h5 (hG0.out.trans g5));clear h5 g5;go_enter Tryz.func85, Tryz.ntmps85
   go_upto_region 1 with fail
   rw [<- HW0.out];go_wp2_with (at_builtin; refine wpList_append_to rfl (.tmp 19) (.const (.string ⟨#[102, 97, 108, 115, 101]⟩)) 28 9 rfl _ _ _ w5 rfl rfl hr5 ?_)
  rotate_left
  focus
   obtain ⟨A6, c6, w5, hr5, h5, g5⟩ := bufN_str W0 base nn c A M ⟨#[116, 114, 117, 101]⟩ hbuf0 (by show nn + 4 <= _; omega) hbW0;have H5 := hid (And.intro h5 (hG0.out.trans g5));clear h5 g5;go_enter Tryz.func85, Tryz.ntmps85
   go_upto_region 1 with fail
   rw [<- HW0.out];go_wp2_with (at_builtin; refine wpList_append_to rfl (.tmp 17) (.const (.string ⟨#[116, 114, 117, 101]⟩)) 28 9 rfl _ _ _ w5 rfl rfl hr5 ?_)
  rotate_left
  all_goals
   go_ret
   rw [HX.out];exact ⟨A6, c6, rfl, H5.out.1, H5.out.2⟩
 by_cases k3 : dk = 3
 ·subst k3
  have HX := hid (show r = (decS dn).data.toList from HS.out);have hds := decS_size dn a2;clear hK hA;go_enter Tryz.func85, Tryz.ntmps85
  go_upto_region 1 with fail
  rw [<- HW0.out];go_wp2_with fail
  refine (c_spec_Decimal dn W0 a2).mono ?_;rintro e w4 ⟨rfl, hb4⟩;obtain ⟨A6, c6, w5, hr5, h5, g5⟩ := bufN_str w4 base nn c A M (decS dn) (HBf0.out.below hb4) (by omega) (Nat.le_trans hbW0 hb4.size);have H5 := hid (And.intro h5 ((hG0.out.trans (Grb.of _ hb4)).trans g5));clear h5 g5 hb4;go_wp2_with (at_builtin; refine wpList_append_to rfl (.tmp 23) (.tmp 26) 28 9 rfl _ _ _ w5 rfl rfl hr5 ?_)
  go_ret
  rw [HX.out, show (decS dn).data.toList.length = (decS dn).size from Array.length_toList];exact ⟨A6, c6, rfl, H5.out.1, H5.out.2⟩
 by_cases k4 : dk = 4
 ·subst k4
  have HX := hid (show r = (quoteB dt).data.toList from HS.out);have hds := quote_len dt;have hqe : (quoteB dt).data.toList.length = (quoteB dt).size := Array.length_toList
  have hst : dt.size <= 400 := by
   have h2 := (shape_parts HSh.out).2.1;unfold strB at h2;simp only [Bool.and_eq_true, decide_eq_true_eq] at h2;exact h2.1
  clear hK hA;go_enter Tryz.func85, Tryz.ntmps85
  go_upto_region 1 with fail
  rw [<- HW0.out];go_wp2_with fail
  refine (c_spec_Quoted dt W0 (by omega)).mono ?_;rintro e w4 ⟨rfl, hb4⟩;obtain ⟨A6, c6, w5, hr5, h5, g5⟩ := bufN_str w4 base nn c A M (quoteB dt) (HBf0.out.below hb4) (by omega) (Nat.le_trans hbW0 hb4.size);have H5 := hid (And.intro h5 ((hG0.out.trans (Grb.of _ hb4)).trans g5));clear h5 g5 hb4 hqe;go_wp2_with (at_builtin; refine wpList_append_to rfl (.tmp 30) (.tmp 33) 28 9 rfl _ _ _ w5 rfl rfl hr5 ?_)
  go_ret
  rw [HX.out, show (quoteB dt).data.toList.length = (quoteB dt).size from Array.length_toList];exact ⟨A6, c6, rfl, H5.out.1, H5.out.2⟩
 have e1 : (dk == 1) = false := beq_eq_false_iff_ne.2 k1;have e2 : (dk == 2) = false := beq_eq_false_iff_ne.2 k2;have e3 : (dk == 3) = false := beq_eq_false_iff_ne.2 k3;have e4 : (dk == 4) = false := beq_eq_false_iff_ne.2 k4;by_cases k5 : dk = 5
 ·subst k5
  have HX := hid (show r = [91] ++ itemsT (fun _ => []) (sayL n) dkd dkd.length ++ [93] from HS.out);obtain ⟨A6, c6, w5, hr5, h5, g5⟩ := bufN_lit W0 base nn c 1 A M [91] [.int .u8 91] hbuf0 rfl rfl (by omega) (by decide) hbW0;have H5 := hid (And.intro h5 g5);have hrow5 := (g5.keep l0 (fun e => by have := (hbuf.lt e).2; omega)).trans HR0.out;have HR5 := hid hrow5;have hs5 := g5.grown.size
  clear h5 g5 hrow5 k1 k2 k3 k4;go_enter Tryz.func85, Tryz.ntmps85
  go_upto_region 1 with fail
  rw [<- HW0.out];go_upto_region 14 with (at_builtin; refine wpList_append_of rfl (.tmp 37) (.tmp 38) 28 rfl _ _ _ w5 rfl rfl hr5 ?_)
  clear x0 x1 x2 x3 x4 x5 xf;obtain ⟨x0, x1, x2, x3, x4, x5, xf⟩ := row6 HR5.out;have l5 := row_lt HR5.out;go_wp2_with fail
  go_loopw [1, 5] (fun s0 v wr => ∃ (k N : Nat) (A' : Option Addr) (c' : Nat), k <= dkd.length /\ v = .int .i64 k /\ s0 = .slice A' N c' /\ BufN base wr (M ++ ([91] ++ itemsT (fun _ => []) (sayL n) dkd k)) N (.slice A' N c') /\ Grb W0 (.slice A nn c) wr (.slice A' N c') /\ wr.heap[w.heap.size]? = some (.cells #[.int .i64 5, .bool df, .int .i64 dn, .string dt, .slice A4 dks.length c4, .slice A5 dkd.length c5] 34 (0, 0))) (fun _ v _ => dkd.length - (Lib.intOf v).toNat)
  case atStart => exact ⟨0, nn + 1, A6, c6, Nat.zero_le _, rfl, rfl, H5.out.1, H5.out.2, HR5.out⟩
  case round =>
   clear x0 x1 x2 x3 x4 x5 xf l5 hs5;obtain ⟨k, N, A', c', hk, rfl, rfl, hbf, hgr, hT⟩ := hrel;have HT := hid hT;have HBf := hid hbf;have HGr := hid hgr;have hbr : Below base w wr := (hG0.out.trans hgr).below hbuf.2 hbw
   have hitl := items_len (pre := (fun _ => [])) (f := sayL n) (g := sizeT n) (l := dkd) (fun _ => Nat.zero_le _) (fun t ht => by
    obtain ⟨i, hi⟩ := List.getElem?_of_mem ht
    exact say_len n t (shape_kid HSh.out hi) (HNum.out.2 t ht)) k hk
   have hNl : N = nn + (1 + (itemsT (fun _ => []) (sayL n) dkd k).length) := by
    rw [hbf.1, List.length_append, List.length_append, <- hbuf.1]; rfl
   have hbwr : base <= wr.heap.size := Nat.le_trans hbW0 hgr.grown.size;have HNl := hid hNl;have hNb : N <= nn + 1 + 5000 * szL (sizeT n) (dkd.take k) := by omega
   have hgs := hgr.grown.size;clear hT hbf hgr hNl hitl;obtain ⟨x0, x1, x2, x3, x4, x5, xf⟩ := row6 HT.out;have l1 := row_lt HT.out;by_cases hlt : k < dkd.length
   ·obtain ⟨p, o, rfl, -, hbl, hcell⟩ := hA (by omega)
    obtain ⟨t, ht⟩ := exists_at hlt;obtain ⟨es, -, hcs, hC⟩ := hcell k t ht;obtain ⟨eA4, ec4, eA5, ec5, rfl, ea0, ea2, ea3⟩ := hC.flat;have hk0 : (0 : Int) <= k := by omega
    have hk1 : (k : Int) < dkd.length := by omega
    have hsk := HSk.out k t ht;have HC := hid hC;have HIt := hid (items_next (pre := (fun _ => [])) (f := sayL n) ht);have HSt := hid (shape_kid HSh.out ht);have hsayl := say_len n t (shape_kid HSh.out ht) (HNum.out.2 t (List.mem_of_getElem? ht))
    have hneA : ∀ q, (Value.slice A' N c').ownBlock = some q -> q ≠ w.heap.size /\ q < wr.heap.size := fun q hq => by
     refine ⟨?_, (HBf.out.lt hq).2⟩;rcases HGr.out.at' q hq with h1 | h1
     ·have := (hbuf.lt h1).2
      omega
     ·have := row_lt HR0.out
      omega
    have HneA := hid hneA;have hszk : N + 1 + 2404 + 5000 * sizeT n t <= 1073741824 := by omega
    have HKx := hid (trivial);clear hcell hA hC ht hneA hK;go_upto_if 48 with fail
    go_cut [1] from 47 to 51 (fun s0 wx => ∃ (A1 : Option Addr) (c1 N1 : Nat), s0 = .slice A1 N1 c1 /\ N1 <= N + 1 /\ BufN base wx (M ++ ([91] ++ itemsT (fun _ => []) (sayL n) dkd k) ++ (if k = 0 then [] else [44])) N1 (.slice A1 N1 c1) /\ Grb wr (.slice A' N c') wx (.slice A1 N1 c1))
    case first =>
     clear hcs;by_cases hk00 : k = 0
     ·have HP := hid (show (if k = 0 then ([] : List UInt8) else [44]) = [] from if_pos hk00)
      have hp0 : ¬ 0 < k := by omega
      clear hk00;go_wp2_with fail
      go_meet
      exact ⟨A', c', N, rfl, by omega, by rw [HP.out, List.append_nil]; exact HBf.out, Grb.of _ (Below.refl _ _)⟩
     ·have HP := hid (show (if k = 0 then ([] : List UInt8) else [44]) = [44] from if_neg hk00)
      have hp0 : 0 < k := by omega
      clear hk00;obtain ⟨A7, c7, w7, hr7, h7, g7⟩ := bufN_lit wr base N c' 1 A' _ [44] [.int .u8 44] HBf.out rfl rfl (by omega) (by decide) hbwr;have H7 := hid (And.intro h7 g7);clear h7 g7;go_wp2_with (at_builtin; refine wpList_append_of rfl (.tmp 49) (.tmp 50) 28 rfl _ _ _ w7 rfl rfl hr7 ?_)
      go_meet
      exact ⟨A7, c7, N + 1, rfl, Nat.le_refl _, by rw [HP.out]; exact H7.out.1, H7.out.2⟩
    case rest =>
     obtain ⟨A1, c1, N1, rfl, hN1, hb1, hg1⟩ := hcut;have HT1 := hid ((hg1.keep l1 (fun e => (HneA.out _ e).1 rfl)).trans HT.out);have HB1 := hid hb1;have HG1 := hid hg1;have hs1 := hg1.grown.size
     have HA1 := hid (show ∀ q, (Value.slice A1 N1 c1).ownBlock = some q -> q ≠ w.heap.size from fun q hq => by
      rcases hg1.at' q hq with h1 | h1
      ·exact (HneA.out q h1).1
      ·omega)
     clear hb1 hg1 x0 x1 x2 x3 x4 x5 xf;obtain ⟨x0, x1, x2, x3, x4, x5, xf⟩ := row6 HT1.out;have lx := row_lt HT1.out;have hbq := ((hG0.out.trans HGr.out).trans HG1.out).below hbuf.2 hbw;have hc0 := (hbq.cell (p := ⟨p, o + k * 6 + 0, none⟩) (by simp; omega)).trans (hcs 0 (by omega));simp at hc0;have hc1 := (hbq.cell (p := ⟨p, o + k * 6 + 1, none⟩) (by simp; omega)).trans (hcs 1 (by omega));simp at hc1
     have hc2 := (hbq.cell (p := ⟨p, o + k * 6 + 2, none⟩) (by simp; omega)).trans (hcs 2 (by omega));simp at hc2;have hc3 := (hbq.cell (p := ⟨p, o + k * 6 + 3, none⟩) (by simp; omega)).trans (hcs 3 (by omega));simp at hc3;have hc4 := (hbq.cell (p := ⟨p, o + k * 6 + 4, none⟩) (by simp; omega)).trans (hcs 4 (by omega));simp at hc4;have hc5 := (hbq.cell (p := ⟨p, o + k * 6 + 5, none⟩) (by simp; omega)).trans (hcs 5 (by omega))
     simp at hc5;clear hcs;have hpw : p < wc.heap.size := by omega
     clear hbq;go_wp2_with fail
     refine (ih t _ wc lo base N1 c1 A1 _ (HC.out.old (((hG0.out.trans HGr.out).trans (HG1.out)).below hbuf.2 hbw)) HSt.out (by omega) (by omega) HB1.out).mono ?_;rintro e w9 ⟨A9, c9, rfl, h9, g9⟩;have HT9 := hid ((g9.keep lx (fun e => (HA1.out _ e) rfl)).trans HT1.out);have H9 := hid h9;have HG9 := hid ((HGr.out.trans (HG1.out)).trans g9);clear h9 g9;go_wp2_with fail
     go_roundw
     case rel => exact ⟨k + 1, N1 + (sayL n t).length, A9, c9, by omega, by go_num, rfl, by rw [HIt.out]; simpa only [List.append_assoc, List.nil_append] using H9.out, HG9.out, HT9.out⟩
     case measure => simp [Lib.intOf]; omega
   ·obtain rfl : k = dkd.length := by omega
    have hke : decide (dkd.length < dkd.length) = false := decide_eq_false (Nat.lt_irrefl _)
    have hNz : N <= 1073741824 := by
     have := hNb;rw [List.take_of_length_le (Nat.le_refl _)] at this;have h2 : S = 1 + szL (sizeT n) dkd := HSz.out;omega
    obtain ⟨A7, c7, w7, hr7, h7, g7⟩ := bufN_lit wr base N c' 1 A' _ [93] [.int .u8 93] HBf.out rfl rfl (by omega) (by decide) hbwr;have H7 := hid (And.intro h7 (hG0.out.trans (HGr.out.trans g7)));have HN7 := hid (show N + 1 = nn + r.length by rw [HX.out, HNl.out]; simp only [List.length_append, List.length_cons, List.length_nil]; omega);clear h7 g7 hA hK;go_wp2_with (at_builtin; refine wpList_append_of rfl (.tmp 59) (.tmp 60) 28 rfl _ _ _ w7 rfl rfl hr7 ?_)
    go_ret
    rw [<- HN7.out, HX.out];exact ⟨A7, c7, rfl, by rw [List.append_assoc] at H7; rw [<- HX.out] at *; exact H7.out.1, H7.out.2⟩
 ·have k6 : dk = 6 := by omega
  subst k6;have HX := hid (show r = [123] ++ itemsT (preM dks) (sayL n) dkd dkd.length ++ [125] from HS.out);have HLL := hid (show dks.length = dkd.length by simpa using hls);clear hls;obtain ⟨A6, c6, w5, hr5, h5, g5⟩ := bufN_lit W0 base nn c 1 A M [123] [.int .u8 123] hbuf0 rfl rfl (by omega) (by decide) hbW0;have H5 := hid (And.intro h5 g5);have hrow5 := (g5.keep l0 (fun e => by have := (hbuf.lt e).2; omega)).trans HR0.out
  have HR5 := hid hrow5;have hs5 := g5.grown.size;clear h5 g5 hrow5 k1 k2 k3 k4;go_enter Tryz.func85, Tryz.ntmps85
  go_upto_region 1 with fail
  rw [<- HW0.out];go_upto_region 22 with (at_builtin; refine wpList_append_of rfl (.tmp 62) (.tmp 63) 28 rfl _ _ _ w5 rfl rfl hr5 ?_)
  clear x0 x1 x2 x3 x4 x5 xf;obtain ⟨x0, x1, x2, x3, x4, x5, xf⟩ := row6 HR5.out;have l5 := row_lt HR5.out;go_wp2_with fail
  go_loopw [1, 6] (fun s0 v wr => ∃ (k N : Nat) (A' : Option Addr) (c' : Nat), k <= dkd.length /\ v = .int .i64 k /\ s0 = .slice A' N c' /\ BufN base wr (M ++ ([123] ++ itemsT (preM dks) (sayL n) dkd k)) N (.slice A' N c') /\ Grb W0 (.slice A nn c) wr (.slice A' N c') /\ wr.heap[w.heap.size]? = some (.cells #[.int .i64 6, .bool df, .int .i64 dn, .string dt, .slice A4 dks.length c4, .slice A5 dkd.length c5] 34 (0, 0))) (fun _ v _ => dkd.length - (Lib.intOf v).toNat)
  case atStart => exact ⟨0, nn + 1, A6, c6, Nat.zero_le _, rfl, rfl, H5.out.1, H5.out.2, HR5.out⟩
  case round =>
   clear x0 x1 x2 x3 x4 x5 xf l5 hs5;obtain ⟨k, N, A', c', hk, rfl, rfl, hbf, hgr, hT⟩ := hrel;have HT := hid hT;have HBf := hid hbf;have HGr := hid hgr;have hbr : Below base w wr := (hG0.out.trans hgr).below hbuf.2 hbw
   have hitl := items_len (pre := (preM dks)) (f := sayL n) (g := sizeT n) (l := dkd) (pre_len HSh.out) (fun t ht => by
    obtain ⟨i, hi⟩ := List.getElem?_of_mem ht
    exact say_len n t (shape_kid HSh.out hi) (HNum.out.2 t ht)) k hk
   have hNl : N = nn + (1 + (itemsT (preM dks) (sayL n) dkd k).length) := by
    rw [hbf.1, List.length_append, List.length_append, <- hbuf.1]; rfl
   have hbwr : base <= wr.heap.size := Nat.le_trans hbW0 hgr.grown.size;have HNl := hid hNl;have hNb : N <= nn + 1 + 5000 * szL (sizeT n) (dkd.take k) := by omega
   have hgs := hgr.grown.size;clear hT hbf hgr hNl hitl;obtain ⟨x0, x1, x2, x3, x4, x5, xf⟩ := row6 HT.out;have l1 := row_lt HT.out;by_cases hlt : k < dkd.length
   ·obtain ⟨p, o, rfl, -, hbl, hcell⟩ := hA (by omega)
    obtain ⟨t, ht⟩ := exists_at hlt;obtain ⟨es, -, hcs, hC⟩ := hcell k t ht;obtain ⟨eA4, ec4, eA5, ec5, rfl, ea0, ea2, ea3⟩ := hC.flat;have hk0 : (0 : Int) <= k := by omega
    have hk1 : (k : Int) < dkd.length := by omega
    have hsk := HSk.out k t ht;have HC := hid hC;have HIt := hid (items_next (pre := (preM dks)) (f := sayL n) ht);have HSt := hid (shape_kid HSh.out ht);have hsayl := say_len n t (shape_kid HSh.out ht) (HNum.out.2 t (List.mem_of_getElem? ht))
    have hneA : ∀ q, (Value.slice A' N c').ownBlock = some q -> q ≠ w.heap.size /\ q < wr.heap.size := fun q hq => by
     refine ⟨?_, (HBf.out.lt hq).2⟩;rcases HGr.out.at' q hq with h1 | h1
     ·have := (hbuf.lt h1).2
      omega
     ·have := row_lt HR0.out
      omega
    have HneA := hid hneA;have hszk : N + 1 + 2404 + 5000 * sizeT n t <= 1073741824 := by omega
    have HKx := hid (hK);clear hcell hA hC ht hneA hK;go_upto_if 73 with fail
    go_cut [1] from 72 to 76 (fun s0 wx => ∃ (A1 : Option Addr) (c1 N1 : Nat), s0 = .slice A1 N1 c1 /\ N1 <= N + 1 /\ BufN base wx (M ++ ([123] ++ itemsT (preM dks) (sayL n) dkd k) ++ (if k = 0 then [] else [44])) N1 (.slice A1 N1 c1) /\ Grb wr (.slice A' N c') wx (.slice A1 N1 c1))
    case first =>
     clear hcs;by_cases hk00 : k = 0
     ·have HP := hid (show (if k = 0 then ([] : List UInt8) else [44]) = [] from if_pos hk00)
      have hp0 : ¬ 0 < k := by omega
      clear hk00;go_wp2_with fail
      go_meet
      exact ⟨A', c', N, rfl, by omega, by rw [HP.out, List.append_nil]; exact HBf.out, Grb.of _ (Below.refl _ _)⟩
     ·have HP := hid (show (if k = 0 then ([] : List UInt8) else [44]) = [44] from if_neg hk00)
      have hp0 : 0 < k := by omega
      clear hk00;obtain ⟨A7, c7, w7, hr7, h7, g7⟩ := bufN_lit wr base N c' 1 A' _ [44] [.int .u8 44] HBf.out rfl rfl (by omega) (by decide) hbwr;have H7 := hid (And.intro h7 g7);clear h7 g7;go_wp2_with (at_builtin; refine wpList_append_of rfl (.tmp 74) (.tmp 75) 28 rfl _ _ _ w7 rfl rfl hr7 ?_)
      go_meet
      exact ⟨A7, c7, N + 1, rfl, Nat.le_refl _, by rw [HP.out]; exact H7.out.1, H7.out.2⟩
    case rest =>
     obtain ⟨A1, c1, N1, rfl, hN1, hb1, hg1⟩ := hcut;have HT1 := hid ((hg1.keep l1 (fun e => (HneA.out _ e).1 rfl)).trans HT.out);have HB1 := hid hb1;have HG1 := hid hg1;have hs1 := hg1.grown.size
     have HA1 := hid (show ∀ q, (Value.slice A1 N1 c1).ownBlock = some q -> q ≠ w.heap.size from fun q hq => by
      rcases hg1.at' q hq with h1 | h1
      ·exact (HneA.out q h1).1
      ·omega)
     clear hb1 hg1 x0 x1 x2 x3 x4 x5 xf;obtain ⟨x0, x1, x2, x3, x4, x5, xf⟩ := row6 HT1.out;have lx := row_lt HT1.out;have hbwc := ((hG0.out.trans HGr.out).trans HG1.out).below hbuf.2 hbw;obtain ⟨q, oq, rfl, -, hql, hqc⟩ := HKx.out (by have := HLL.out; omega);obtain ⟨s, hs⟩ := exists_at (show k < dks.length by have := HLL.out; omega);obtain ⟨es', -, hcs', rfl, hss⟩ := hqc k s hs;have hkc := (hbwc.cell (p := ⟨q, oq + k * 1 + 0, none⟩) hql).trans (hcs' 0 (by omega))
     simp at hkc;have hqw : q < wc.heap.size := by have := hG0.out.grown.size; omega
     have hk2 : (k : Int) < dks.length := by have := HLL.out; omega
     have hs4 := shape_key HSh.out hs;have hql2 := quote_len s;have hqe : (quoteB s).data.toList.length = (quoteB s).size := Array.length_toList;have HPz := hid (show preM dks k = (quoteB s).data.toList ++ [58] by unfold preM; rw [hs]);have HQC := hid (c_spec_Quoted s wc (by omega));have hb01 : (quoteB s).size <= 2402 := by omega
     clear hcs' hqc hs hqe hql2 hbwc;go_wp2_with fail
     refine HQC.out.mono ?_;rintro e w4 ⟨rfl, hb4⟩;have hs44 := hb4.size;obtain ⟨A2, c2, w5, hr5, h5, g5⟩ := bufN_str w4 base N1 c1 A1 _ (quoteB s) (HB1.out.below hb4) (by omega) (by omega);have hs55 := g5.grown.size;obtain ⟨A3, c3, w6, hr6, h6, g6⟩ := bufN_lit w5 base (N1 + (quoteB s).size) c2 1 A2 _ [58] [.int .u8 58] h5 rfl rfl (by omega) (by decide) (by omega);have hs66 := g6.grown.size;have HG5 := hid (((HG1.out.trans (Grb.of _ hb4)).trans g5).trans g6)
     have hbq := ((hG0.out.trans HGr.out).trans HG5.out).below hbuf.2 hbw;have HT5 := hid ((HG5.out.keep l1 (fun e => (HneA.out _ e).1 rfl)).trans HT.out);have HB5 := hid h6
     have HA5 := hid (show ∀ q, (Value.slice A3 (N1 + (quoteB s).size + 1) c3).ownBlock = some q -> q ≠ w.heap.size from fun q hq => by
      rcases HG5.out.at' q hq with h1 | h1
      ·exact (HneA.out q h1).1
      ·omega)
     have hc0 := (hbq.cell (p := ⟨p, o + k * 6 + 0, none⟩) (by simp; omega)).trans (hcs 0 (by omega));simp at hc0;have hc1 := (hbq.cell (p := ⟨p, o + k * 6 + 1, none⟩) (by simp; omega)).trans (hcs 1 (by omega));simp at hc1;have hc2 := (hbq.cell (p := ⟨p, o + k * 6 + 2, none⟩) (by simp; omega)).trans (hcs 2 (by omega));simp at hc2;have hc3 := (hbq.cell (p := ⟨p, o + k * 6 + 3, none⟩) (by simp; omega)).trans (hcs 3 (by omega))
     simp at hc3;have hc4 := (hbq.cell (p := ⟨p, o + k * 6 + 4, none⟩) (by simp; omega)).trans (hcs 4 (by omega));simp at hc4;have hc5 := (hbq.cell (p := ⟨p, o + k * 6 + 5, none⟩) (by simp; omega)).trans (hcs 5 (by omega));simp at hc5;clear hcs;have hpw : p < w6.heap.size := by omega
     clear h5 g5 h6 g6 hb4 hbq x0 x1 x2 x3 x4 x5 xf hkc;obtain ⟨x0, x1, x2, x3, x4, x5, xf⟩ := row6 HT5.out;have lx5 := row_lt HT5.out;go_wp2_with (first | (at_builtin; refine wpList_append_to rfl (.tmp 77) (.tmp 83) 28 9 rfl _ _ _ w5 rfl rfl hr5 ?_) | (at_builtin; refine wpList_append_of rfl (.tmp 85) (.tmp 86) 28 rfl _ _ _ w6 rfl rfl hr6 ?_))
     refine (ih t _ w6 lo base (N1 + (quoteB s).size + 1) c3 A3 _ (HC.out.old (((hG0.out.trans HGr.out).trans (HG5.out)).below hbuf.2 hbw)) HSt.out (by omega) (by omega) HB5.out).mono ?_;rintro e w9 ⟨A9, c9, rfl, h9, g9⟩;have HT9 := hid ((g9.keep lx5 (fun e => HA5.out _ e rfl)).trans HT5.out);have H9 := hid h9;have HG9 := hid ((HGr.out.trans (HG5.out)).trans g9);clear h9 g9;go_wp2_with fail
     go_roundw
     case rel => exact ⟨k + 1, (N1 + (quoteB s).size + 1) + (sayL n t).length, A9, c9, by omega, by go_num, rfl, by rw [HIt.out, HPz.out]; simpa only [List.append_assoc, List.nil_append] using H9.out, HG9.out, HT9.out⟩
     case measure => simp [Lib.intOf]; omega
   ·obtain rfl : k = dkd.length := by omega
    have hke : decide (dkd.length < dkd.length) = false := decide_eq_false (Nat.lt_irrefl _)
    have hNz : N <= 1073741824 := by
     have := hNb;rw [List.take_of_length_le (Nat.le_refl _)] at this;have h2 : S = 1 + szL (sizeT n) dkd := HSz.out;omega
    obtain ⟨A7, c7, w7, hr7, h7, g7⟩ := bufN_lit wr base N c' 1 A' _ [125] [.int .u8 125] HBf.out rfl rfl (by omega) (by decide) hbwr;have H7 := hid (And.intro h7 (hG0.out.trans (HGr.out.trans g7)));have HN7 := hid (show N + 1 = nn + r.length by rw [HX.out, HNl.out]; simp only [List.length_append, List.length_cons, List.length_nil]; omega);clear h7 g7 hA hK;go_wp2_with (at_builtin; refine wpList_append_of rfl (.tmp 95) (.tmp 96) 28 rfl _ _ _ w7 rfl rfl hr7 ?_)
    go_ret
    rw [<- HN7.out, HX.out];exact ⟨A7, c7, rfl, by rw [List.append_assoc] at H7; rw [<- HX.out] at *; exact H7.out.1, H7.out.2⟩
theorem all_sayS : ∀ n, T_sayS n
 | 0 => fun _ _ _ _ _ _ _ _ _ h _ _ _ _ => (C_Tree.none h).elim
 | n + 1 => of_sayS n (all_sayS n)
def bracedB (n : Nat) (d : TreeD) : ByteArray := if okT n d = true then (if 20000 < (sayL n d).length then ⟨#[]⟩ else ⟨(sayL n d).toArray⟩) else ⟨#[]⟩
theorem okT_parts {n : Nat} {d : TreeD} (h : okT n d = true) : sizeT n d <= 300 /\ shapeT n d = true := by
 unfold okT at h;simp only [Bool.and_eq_true] at h;exact ⟨of_decide_eq_true h.1.2, h.2⟩
theorem bufN_nil (base : Nat) (w : World) : BufN base w [] 0 (.slice none 0 0) := ⟨rfl, World.ownsRow_nil _ _ _ _⟩
theorem bufN_empty (w : World) (hB : ∀ {w : World} {e : TypeId} {size base B : Nat}, B = w.heap.size -> base <= w.heap.size -> (w.alloc (.cells #[] e)).ownsRow base e size (.slice (some ⟨B, 0, none⟩) 0 0) 0 []) (base : Nat) (hb : base <= w.heap.size) : BufN base (w.alloc (.cells #[] 5)) [] 0 (.slice (some ⟨w.heap.size, 0, none⟩) 0 0) := ⟨rfl, hB rfl hb⟩
theorem c_impl_BracedText (n : Nat) (d : TreeD) (cs : List Value) (w : World) (lo : Nat) (h : C_Tree n lo w.heap.size w d cs) (hz : sizeT n d <= 1073741824) (hT : Tabs w) (hP : Pow w) :
  Calls Tryz.prog 46 #[.agg cs.toArray] w fun e w' => e = .returned (.string (bracedB n d)) /\ Below w.heap.size w w' := by
 have HK := hid (fun (w' : World) (hb : Below w.heap.size w w') => c_impl_TreeOk n d cs w' lo (h.now hb) hz (hT.below hb));have HF := hid (show bracedB n d = if okT n d = true then (if 20000 < (sayL n d).length then ⟨#[]⟩ else ⟨(sayL n d).toArray⟩) else ⟨#[]⟩ from rfl);by_cases hok : okT n d = true
 ·obtain ⟨h3, hsh⟩ := okT_parts hok
  have HS := hid (fun (w' : World) (hb : Below w.heap.size w w') => all_sayI n d cs w' w lo w.heap.size 0 0 none [] (h.old hb) hsh hb.size (by omega) (bufN_nil _ _) hT hP (Nat.le_refl _) hb);obtain ⟨A4, c4, A5, c5, rfl⟩ := C_Tree.open h;obtain ⟨r, hr⟩ : ∃ r, r = sayL n d := ⟨_, rfl⟩
  obtain ⟨b, hb⟩ : ∃ b, b = bracedB n d := ⟨_, rfl⟩
  rw [<- hr, <- hb] at HF;rw [<- hr] at HS;rw [hok] at HK HF;rw [<- hb];simp only [Nat.zero_add, List.nil_append] at HS;obtain ⟨m, hm⟩ : ∃ m, m = r.length := ⟨_, rfl⟩
  rw [<- hm] at HS HF;have HM := hid hm;have hsz : (⟨r.toArray⟩ : ByteArray).size = m := by rw [hm]; show r.toArray.size = r.length; simp
  clear h hr hb hok hm hz hsh h3 hT hP;by_cases hlong : 20000 < m
  focus
   have dl : decide ((20000 : Int) < (m : Int)) = true := decide_eq_true (by omega);have HX := hid (show b = ⟨#[]⟩ by rw [HF.out, if_pos rfl, if_pos hlong])
  rotate_left
  focus
   have dl : decide ((20000 : Int) < (m : Int)) = false := decide_eq_false (by omega);have HX := hid (show b = ⟨r.toArray⟩ by rw [HF.out, if_pos rfl, if_neg hlong])
  rotate_left
  all_goals
   clear hlong;go_enter Tryz.func46, Tryz.ntmps46
   go_upto_region 3 with (go_at_call 81; refine (HK.out _ bel).mono ?_; rintro e w1 ⟨rfl, hb⟩; (first | (have hcu2 := Cum.join hcu hb; (try clear hcu); (try clear hc); (try clear hfz); (try clear hsz); (try clear hs0); (try clear hs1); (try clear hs2); (try clear hs3); (try clear hs4); ) | have hcu2 := Cum.mk hb); have hcu := hcu2; clear hcu2; obtain ⟨hc, hfz⟩ := bcell hcu.h; have hsz := hcu.h.size; (try simp at hsz); (try have hs0 := lt_of_succ_le hsz); (try (have hs1 := lt_pred hsz; (try (have hs2 := lt_pred hs1; (try (have hs3 := lt_pred hs2; (try have hs4 := lt_pred hs3))))))))
   go_wp2_with fail
   refine (HS.out _ bel).mono ?_;rintro e w9 ⟨A9, c9, rfl, h9, g9⟩;have hcv := own_string HM.out (show w9.ownsRow w.heap.size 5 1 (.slice A9 m c9) m (Lib.strCells ⟨r.toArray⟩) from h9.2);have hb8 := g9.below (bufN_nil w.heap.size _).2 (show Below w.heap.size w _ from bel).size;have hb9 : Below w.heap.size w w9 := Below.trans (show Below w.heap.size w _ from bel) hb8;clear h9 g9 hb8;go_wp2_with fail
   go_ret
   exact ⟨by rw [HX.out]; rfl, hb9⟩
 ·rw [Bool.not_eq_true] at hok
  obtain ⟨A4, c4, A5, c5, rfl⟩ := C_Tree.open h;have HX := hid (show bracedB n d = ⟨#[]⟩ by rw [HF.out, if_neg (by rw [hok]; decide)]);rw [hok] at HK;clear h hok HF hz hT hP;go_enter Tryz.func46, Tryz.ntmps46
  go_wp2_with (go_at_call 81; refine (HK.out _ bel).mono ?_; rintro e w1 ⟨rfl, hb⟩; (first | (have hcu2 := Cum.join hcu hb; (try clear hcu); (try clear hc); (try clear hfz); (try clear hsz); (try clear hs0); (try clear hs1); (try clear hs2); (try clear hs3); (try clear hs4); ) | have hcu2 := Cum.mk hb); have hcu := hcu2; clear hcu2; obtain ⟨hc, hfz⟩ := bcell hcu.h; have hsz := hcu.h.size; (try simp at hsz); (try have hs0 := lt_of_succ_le hsz); (try (have hs1 := lt_pred hsz; (try (have hs2 := lt_pred hs1; (try (have hs3 := lt_pred hs2; (try have hs4 := lt_pred hs3))))))))
  go_ret
  exact ⟨by rw [HX.out]; rfl, bel⟩
theorem c_spec_BracedText (n : Nat) (d : TreeD) (cs : List Value) (w : World) (lo : Nat) (h : C_Tree n lo w.heap.size w d cs) (hz : sizeT n d <= 1073741824)  :
  Calls Tryz.prog 45 #[.agg cs.toArray] w fun e w' => e = .returned (.string (bracedB n d)) /\ Below w.heap.size w w' := by
 have HK := hid (fun (w' : World) (hb : Below w.heap.size w w') => c_spec_TreeOk n d cs w' lo (h.now hb) hz);have HF := hid (show bracedB n d = if okT n d = true then (if 20000 < (sayL n d).length then ⟨#[]⟩ else ⟨(sayL n d).toArray⟩) else ⟨#[]⟩ from rfl);by_cases hok : okT n d = true
 ·obtain ⟨h3, hsh⟩ := okT_parts hok
  have HS := hid (fun (w' : World) (hb : Below w.heap.size w w') => all_sayS n d cs (w'.alloc (.cells #[] 5)) lo w.heap.size 0 0 (some ⟨w'.heap.size, 0, none⟩) [] (h.old (hb.trans (Below.mono (show Below w'.heap.size w' (w'.alloc (.cells #[] 5)) from bel) hb.size))) hsh (hb.trans (Below.mono (show Below w'.heap.size w' (w'.alloc (.cells #[] 5)) from bel) hb.size)).size (by omega) (bufN_empty w' own_empty _ hb.size))
  obtain ⟨A4, c4, A5, c5, rfl⟩ := C_Tree.open h;obtain ⟨r, hr⟩ : ∃ r, r = sayL n d := ⟨_, rfl⟩
  obtain ⟨b, hb⟩ : ∃ b, b = bracedB n d := ⟨_, rfl⟩
  rw [<- hr, <- hb] at HF;rw [<- hr] at HS;rw [hok] at HK HF;rw [<- hb];simp only [Nat.zero_add, List.nil_append] at HS;obtain ⟨m, hm⟩ : ∃ m, m = r.length := ⟨_, rfl⟩
  rw [<- hm] at HS HF;have HM := hid hm;have hsz : (⟨r.toArray⟩ : ByteArray).size = m := by rw [hm]; show r.toArray.size = r.length; simp
  clear h hr hb hok hm hz hsh h3 ;by_cases hlong : 20000 < m
  focus
   have dl : decide ((20000 : Int) < (m : Int)) = true := decide_eq_true (by omega);have HX := hid (show b = ⟨#[]⟩ by rw [HF.out, if_pos rfl, if_pos hlong])
  rotate_left
  focus
   have dl : decide ((20000 : Int) < (m : Int)) = false := decide_eq_false (by omega);have HX := hid (show b = ⟨r.toArray⟩ by rw [HF.out, if_pos rfl, if_neg hlong])
  rotate_left
  all_goals
   clear hlong;go_enter Tryz.func45, Tryz.ntmps45
   go_upto_region 3 with (go_at_call 22; refine (HK.out _ bel).mono ?_; rintro e w1 ⟨rfl, hb⟩; (first | (have hcu2 := Cum.join hcu hb; (try clear hcu); (try clear hc); (try clear hfz); (try clear hsz); (try clear hs0); (try clear hs1); (try clear hs2); (try clear hs3); (try clear hs4); ) | have hcu2 := Cum.mk hb); have hcu := hcu2; clear hcu2; obtain ⟨hc, hfz⟩ := bcell hcu.h; have hsz := hcu.h.size; (try simp at hsz); (try have hs0 := lt_of_succ_le hsz); (try (have hs1 := lt_pred hsz; (try (have hs2 := lt_pred hs1; (try (have hs3 := lt_pred hs2; (try have hs4 := lt_pred hs3))))))))
   go_wp2_with fail
   refine (HS.out _ bel).mono ?_;rintro e w9 ⟨A9, c9, rfl, h9, g9⟩;have hcv := own_string HM.out (show w9.ownsRow w.heap.size 5 1 (.slice A9 m c9) m (Lib.strCells ⟨r.toArray⟩) from h9.2);have hb8 := g9.below (bufN_empty _ own_empty w.heap.size (show Below w.heap.size w _ from bel).size).2 (show Below w.heap.size w _ from bel).size;have hb9 : Below w.heap.size w w9 := Below.trans (show Below w.heap.size w _ from bel) hb8
   clear h9 g9 hb8;go_wp2_with fail
   go_ret
   exact ⟨by rw [HX.out]; rfl, hb9⟩
 ·rw [Bool.not_eq_true] at hok
  obtain ⟨A4, c4, A5, c5, rfl⟩ := C_Tree.open h;have HX := hid (show bracedB n d = ⟨#[]⟩ by rw [HF.out, if_neg (by rw [hok]; decide)]);rw [hok] at HK;clear h hok HF hz;go_enter Tryz.func45, Tryz.ntmps45
  go_wp2_with (go_at_call 22; refine (HK.out _ bel).mono ?_; rintro e w1 ⟨rfl, hb⟩; (first | (have hcu2 := Cum.join hcu hb; (try clear hcu); (try clear hc); (try clear hfz); (try clear hsz); (try clear hs0); (try clear hs1); (try clear hs2); (try clear hs3); (try clear hs4); ) | have hcu2 := Cum.mk hb); have hcu := hcu2; clear hcu2; obtain ⟨hc, hfz⟩ := bcell hcu.h; have hsz := hcu.h.size; (try simp at hsz); (try have hs0 := lt_of_succ_le hsz); (try (have hs1 := lt_pred hsz; (try (have hs2 := lt_pred hs1; (try (have hs3 := lt_pred hs2; (try have hs4 := lt_pred hs3))))))))
  go_ret
  exact ⟨by rw [HX.out]; rfl, bel⟩
theorem blank_skip {s : ByteArray} {rest : List UInt8} {acc : List SignD} : ∀ (a : List UInt8) (j : Nat), (∀ c ∈ a, blankI (c.toNat : Int) = true) -> Rd s j (a ++ rest) -> signsG s j acc = signsG s (j + a.length) acc
 | [], _, _, _ => rfl
 | c :: a, j, h, hr => by
  have hb := Rd.byte0 (c := c) hr;rw [signsG_blank hb.1 (by rw [hb.2]; exact h c (by simp)), blank_skip a (j + 1) (fun x hx => h x (by simp [hx])) (Rd.drop (a := [c]) hr), List.length_cons];congr 1
  omega
theorem blank_vu {a : List UInt8} (h : ∀ c ∈ a, blankI (c.toNat : Int) = true) : VU a := VU.low (fun c hc => by
 have := h c hc;unfold blankI at this;rw [decide_eq_true_eq] at this
 omega)
theorem blank_head {a : List UInt8} (h : ∀ c ∈ a, blankI (c.toNat : Int) = true) : headOk a := fun c hc => by
 have := h c (List.mem_of_mem_head? hc);unfold blankI at this;rw [decide_eq_true_eq] at this;omega
theorem rd_all (l : List UInt8) : Rd ⟨l.toArray⟩ 0 l := by unfold Rd; simp
theorem size_list (l : List UInt8) : (⟨l.toArray⟩ : ByteArray).size = l.length := by show l.toArray.size = l.length; simp
theorem textF_good {l : List UInt8} (h : VU l) (hl : l.length <= 20000) : textF ⟨l.toArray⟩ = flt0 := by
 have h1 := h ⟨l.toArray⟩ 0 [] (by rw [List.append_nil]; exact rd_all l);have h3 : badAt ⟨l.toArray⟩ (0 + l.length) = -1 := badAt_end (by rw [size_list]; omega);rw [h3] at h1;unfold textF;rw [if_neg (by rw [size_list]; omega), h1, if_neg (by decide)]
theorem signs_wrap {n : Nat} {d : TreeD} (h : shapeT n d = true) (hn : numT n d) {a z : List UInt8} (ha : ∀ c ∈ a, blankI (c.toNat : Int) = true) (hz : ∀ c ∈ z, blankI (c.toNat : Int) = true) (hl : (a ++ (sayL n d ++ z)).length <= 20000) :
  ∃ L, L.map skT = tkL n d /\ signsF ⟨(a ++ (sayL n d ++ z)).toArray⟩ = (L, flt0) := by
 obtain ⟨h1, h2⟩ := both_say n d h hn;have ht := textF_good (VU.app (blank_vu ha) (VU.app h2 (blank_vu hz))) hl;obtain ⟨s, hs⟩ : ∃ s : ByteArray, s = ⟨(a ++ (sayL n d ++ z)).toArray⟩ := ⟨_, rfl⟩
 have hr : Rd s 0 (a ++ (sayL n d ++ z)) := by rw [hs]; exact rd_all _
 have hsz : s.size = (a ++ (sayL n d ++ z)).length := by rw [hs]; exact size_list _
 rw [<- hs] at ht ⊢;have hr2 := hr.drop;obtain ⟨L, e1, e2⟩ := h1 s (0 + a.length) [] z hr2 (blank_head hz);refine ⟨L, e1, ?_⟩;unfold signsF;rw [ht, if_pos (show flt0.code = 0 from rfl), blank_skip a 0 ha hr, e2, blank_skip z _ hz (by rw [List.append_nil]; exact hr2.drop)];rw [signsG_end (by rw [hsz]; simp only [List.length_append]; omega)];rfl
theorem okT_deep {n : Nat} {d : TreeD} (h : okT n d = true) : depthT n d <= 8 := by
 unfold okT at h;simp only [Bool.and_eq_true] at h;exact of_decide_eq_true h.1.1
theorem readB_wrap {n : Nat} {d : TreeD} (h : okT n d = true) (hn : numT n d) {a z : List UInt8} (ha : ∀ c ∈ a, blankI (c.toNat : Int) = true) (hz : ∀ c ∈ z, blankI (c.toNat : Int) = true) (hl : (a ++ (sayL n d ++ z)).length <= 20000) :
  readB ⟨(a ++ (sayL n d ++ z)).toArray⟩ = (flt0, d) := by
 obtain ⟨h3, hsh⟩ := okT_parts h;have h8 := okT_deep h;obtain ⟨L, e1, e2⟩ := signs_wrap hsh hn ha hz hl;obtain ⟨s, hs⟩ : ∃ s : ByteArray, s = ⟨(a ++ (sayL n d ++ z)).toArray⟩ := ⟨_, rfl⟩
 rw [<- hs] at e2 ⊢;have hT : Tok L 0 (tkL n d ++ []) := by unfold Tok; rw [List.drop_zero, List.append_nil, e1]
 have hLl : L.length = (tkL n d).length := by rw [<- e1, List.length_map]
 have hb := back_tree n d hsh L s.size 0 0 (2 * L.length + 4) 1 [] hT (by omega) (by omega) (by omega);exact readB_good (by rw [e2]; rfl) (by rw [e2]; exact hb) (by rw [e2]; simp only; omega)
theorem readB_back {n : Nat} {d : TreeD} (h : okT n d = true) (hn : numT n d) (hl : (sayL n d).length <= 20000) : readB ⟨(sayL n d).toArray⟩ = (flt0, d) := by
 have := readB_wrap (a := []) (z := []) h hn (fun c hc => by cases hc) (fun c hc => by cases hc) (by simpa using hl)
 simpa using this
def textsI (l : List Int) : List UInt8 := l.flatMap fun x => (textB x).data.toList
theorem textsI_next {l : List Int} {k : Nat} {x : Int} (h : l[k]? = some x) : textsI (l.take (k + 1)) = textsI (l.take k) ++ (textB x).data.toList := by
 unfold textsI;rw [take_next h, List.flatMap_append];simp
theorem textsI_len (l : List Int) : (textsI l).length <= 4 * l.length := by
 unfold textsI;induction l with
 | nil => simp
 | cons x l ih =>
  have := textB_size x;have h2 : (textB x).data.toList.length = (textB x).size := Array.length_toList;rw [List.flatMap_cons, List.length_append, List.length_cons];omega
theorem c_spec_RunesText (l : List Int) (v : Value) (w : World) (lo : Nat) (hs : SlOf C_Int 1 lo w.heap.size w l v) (hI : ∀ x ∈ l, -9223372036854775808 <= x /\ x <= 9223372036854775807) (hn : l.length <= 1000) :
  Calls Tryz.prog 252 #[v] w fun e w' => e = .returned (.string ⟨(textsI l).toArray⟩) /\ Below w.heap.size w w' := by
 obtain ⟨A0, c0, rfl, hlc, hc, hA⟩ := hs;have HI := hid hI;have HA := hid hA;clear hA hI;go_enter Tryz.func252, Tryz.ntmps252
 go_wp2_with fail
 go_loopw [3, 4] (fun s i wr => ∃ (k n c : Nat) (A : Option Addr), k <= l.length /\ i = .int .i64 k /\ s = .slice A n c /\ BufN w.heap.size wr (textsI (l.take k)) n (.slice A n c) /\ Below w.heap.size w wr) (fun _ i _ => l.length - (intOf i).toNat)
 case atStart => exact ⟨0, 0, 0, _, Nat.zero_le _, rfl, rfl, bufN_empty w own_empty _ (Nat.le_refl _), bel⟩
 case round =>
  obtain ⟨k, n, c, A, hk, rfl, rfl, hbf, hbr⟩ := hrel;have HBf := hid hbf;have HBr := hid hbr;have hws := hbr.size;have htl := textsI_len (l.take k);rw [List.length_take] at htl;have hnl : n <= 4000 := by have := hbf.1; omega
  clear htl;clear hbf hbr;by_cases hlt : k < l.length
  ·have hlt1 : (k : Int) < l.length := by omega
   have hk0 : (0 : Int) <= k := by omega
   obtain ⟨b, o, hb, hb1, hb2, hcell⟩ := HA.out (by omega);subst hb;obtain ⟨x, hx⟩ := exists_at hlt;obtain ⟨es, -, hes, rfl⟩ := hcell k x hx
   have hy : wr.cell? ⟨b, o + k, none⟩ = some (.int .i64 x) := by
    have := hes 0 (by omega);rw [HBr.out.cell (by simpa using hb2)]
    simpa using this
   have hxI := HI.out x (List.mem_of_getElem? hx);have HNx := hid (textsI_next hx);have htz := textB_size x;clear hcell hes hx;go_wp2_with fail
   refine (c_spec_RuneText x _ hxI).mono ?_;rintro e w5 ⟨rfl, hb5⟩;obtain ⟨A6, c6, w6, hr6, h6, g6⟩ := bufN_str w5 w.heap.size n c A _ (textB x) (HBf.out.below hb5) (by omega) (Nat.le_trans hws hb5.size);have hb6 := (HBr.out.trans (hb5.mono hws)).trans (g6.below (HBf.out.below hb5).2 (Nat.le_trans hws hb5.size));have H6 := hid (And.intro h6 hb6);clear h6 g6 hb6;go_wp2_with (at_builtin; refine wpList_append_to rfl (.tmp 12) (.tmp 17) 28 9 rfl _ _ _ w6 rfl rfl hr6 ?_)
   go_roundw
   case rel => exact ⟨k + 1, n + (textB x).size, c6, A6, by omega, by go_num, rfl, by rw [HNx.out]; exact H6.out.1, H6.out.2⟩
   case measure => first | omega | (simp [Lib.intOf]; omega) | (simp [intOf]; omega)
  ·obtain rfl : k = l.length := by omega
   have HT := hid (show l.take l.length = l from List.take_length);have hcv := own_string HBf.out.1 HBf.out.2;have hke : decide ((l.length : Int) < l.length) = false := decide_eq_false (by omega);rw [HT.out] at hcv;go_wp2_with fail
   go_ret
   exact ⟨rfl, HBr.out⟩
open Go.Lib
theorem nats2 : ∀ {l : List UInt8} {a b : Nat}, l.map UInt8.toNat = [a, b] -> ∃ x y : UInt8, l = [x, y] /\ x.toNat = a /\ y.toNat = b
 | [x, y], a, b, h => by simp at h; exact ⟨x, y, rfl, h.1, h.2⟩
 | [], _, _, h => by simp at h
 | [_], _, _, h => by simp at h
 | _ :: _ :: _ :: _, _, _, h => by simp at h
theorem nats3 : ∀ {l : List UInt8} {a b c : Nat}, l.map UInt8.toNat = [a, b, c] -> ∃ x y z : UInt8, l = [x, y, z] /\ x.toNat = a /\ y.toNat = b /\ z.toNat = c
 | [x, y, z], a, b, c, h => by simp at h; exact ⟨x, y, z, rfl, h.1, h.2.1, h.2.2⟩
 | [], _, _, _, h => by simp at h
 | [_], _, _, _, h => by simp at h
 | [_, _], _, _, _, h => by simp at h
 | _ :: _ :: _ :: _ :: _, _, _, _, h => by simp at h
theorem nats4 : ∀ {l : List UInt8} {a b c d : Nat}, l.map UInt8.toNat = [a, b, c, d] -> ∃ x y z u : UInt8, l = [x, y, z, u] /\ x.toNat = a /\ y.toNat = b /\ z.toNat = c /\ u.toNat = d
 | [x, y, z, u], a, b, c, d, h => by simp at h; exact ⟨x, y, z, u, rfl, h.1, h.2.1, h.2.2.1, h.2.2.2⟩
 | [], _, _, _, _, h => by simp at h
 | [_], _, _, _, _, h => by simp at h
 | [_, _], _, _, _, _, h => by simp at h
 | [_, _, _], _, _, _, _, h => by simp at h
 | _ :: _ :: _ :: _ :: _ :: _, _, _, _, _, h => by simp at h
theorem vu_enc {l : List UInt8} {n k : Nat} (hk : l.length = k) (h1 : 1 < k) (hd : decodeL l = (n, k)) : VU l := by
 have h := VU.rune (l := l) (by rw [hd]; intro e; simp at e; omega) (by rw [hd]; exact Nat.le_of_lt h1) (by rw [hd, hk]; exact Nat.le_refl _);rw [hd] at h
 have ht : l.take (n, k).2 = l := by
  show l.take k = l
  rw [<- hk];exact List.take_length
 rw [ht] at h;exact h
theorem VU.text (x : Int) : VU (textB x).data.toList := by
 by_cases h : runeOkB x = true
 ·have hx : 0 <= x /\ x <= 1114111 /\ ¬ (55296 <= x /\ x <= 57343) := by unfold runeOkB at h; simp at h; omega
  obtain ⟨n, rfl⟩ : ∃ n : Nat, x = n := ⟨x.toNat, by omega⟩
  have hl := textB_list n;generalize (textB (n : Int)).data.toList = l at hl ⊢;have he := hl;unfold encN4 at he;rw [if_neg (by omega)] at he;by_cases c1 : n < 128
  ·rw [if_pos c1] at he
   refine VU.low (fun c hc => ?_);have hm : c.toNat ∈ l.map UInt8.toNat := List.mem_map_of_mem hc;rw [he] at hm;simp at hm;omega
  rw [if_neg c1] at he;by_cases c2 : n < 2048
  ·rw [if_pos c2] at he
   obtain ⟨a, b, rfl, ha, hb⟩ := nats2 he;have hg : gathN a.toNat b.toNat 0 0 2 = n := by show 64 * partN a.toNat + b.toNat - 128 = n; unfold partN; rw [if_neg (by omega), if_neg (by omega), if_pos (by omega)]; omega
   have w := rune_way2 2 a.toNat b.toNat 0 0 (by omega) (by omega) (by omega);have hd := w.2 (w.1.1 ⟨by omega, by unfold contN; simp; omega, by rw [hg, <- hl]; rfl⟩);rw [hg] at hd;exact vu_enc (n := n) (k := 2) rfl (by omega) (by rw [decodeL_N]; exact hd)
  rw [if_neg c2] at he;by_cases c3 : n < 65536
  ·rw [if_pos c3] at he
   obtain ⟨a, b, c, rfl, ha, hb, hc⟩ := nats3 he;have hg : gathN a.toNat b.toNat c.toNat 0 3 = n := by show 64 * (64 * partN a.toNat + b.toNat - 128) + c.toNat - 128 = n; unfold partN; rw [if_neg (by omega), if_pos (by omega)]; omega
   have w := rune_way3 3 a.toNat b.toNat c.toNat 0 (by omega) (by omega) (by omega) (by omega);have hd := w.2 (w.1.1 ⟨by omega, by unfold contN; simp; omega, by unfold contN; simp; omega, by rw [hg, <- hl]; rfl⟩);rw [hg] at hd;exact vu_enc (n := n) (k := 3) rfl (by omega) (by rw [decodeL_N]; exact hd)
  ·rw [if_neg c3] at he
   obtain ⟨a, b, c, d, rfl, ha, hb, hc, hd4⟩ := nats4 he;have hg : gathN a.toNat b.toNat c.toNat d.toNat 4 = n := by show 64 * (64 * (64 * partN a.toNat + b.toNat - 128) + c.toNat - 128) + d.toNat - 128 = n; unfold partN; rw [if_pos (by omega)]; omega
   have w := rune_way4 4 a.toNat b.toNat c.toNat d.toNat (by omega) (by omega) (by omega) (by omega) (by omega);have hd := w.2 (w.1.1 ⟨by omega, by unfold contN; simp; omega, by unfold contN; simp; omega, by unfold contN; simp; omega, by rw [hg, <- hl]; rfl⟩);rw [hg] at hd;exact vu_enc (n := n) (k := 4) rfl (by omega) (by rw [decodeL_N]; exact hd)
 ·have : textB x = ⟨#[]⟩ := by unfold textB; rw [if_neg h]
  rw [this];exact VU.nil
theorem VU.texts : ∀ l : List Int, VU (textsI l)
 | [] => VU.nil
 | x :: l => VU.app (VU.text x) (VU.texts l)
theorem runes_of_bad (s : ByteArray) : ∀ (f i : Nat), s.size - i <= f -> badAt s i = -1 -> (runesAt s i).isSome = true := by
 intro f;induction f with
 | zero =>
  intro i hf _;rw [runesAt_end (by omega)];rfl
 | succ f ih =>
  intro i hf h;by_cases hi : i < s.size
  ·by_cases hd : Utf8.decode s i = (65533, 1)
   ·rw [badAt_bad hi hd] at h
    omega
   ·obtain ⟨-, d2, d3⟩ := decode_fits s i hi
    rw [badAt_step hi hd] at h;rw [runesAt_step hi hd];have := ih _ (by omega) h;rw [Option.isSome_map];exact this
  ·rw [runesAt_end hi]
   rfl
theorem utf_of_vu {l : List UInt8} (h : VU l) : utf8B ⟨l.toArray⟩ = true := by
 have h1 := h ⟨l.toArray⟩ 0 [] (by rw [List.append_nil]; exact rd_all l);have h3 : badAt ⟨l.toArray⟩ (0 + l.length) = -1 := badAt_end (by rw [size_list]; omega);rw [h3] at h1;exact runes_of_bad _ _ 0 (Nat.le_refl _) h1
def WordOk (s : ByteArray) : Prop := utf8B s = true /\ s.size <= 20
theorem word_low {s : ByteArray} (h : s.data.toList.all (fun c => decide (c.toNat < 128)) = true) (hs : s.size <= 20) : WordOk s := by
 have hv : VU s.data.toList := VU.low (fun c hc => by
  have := List.all_eq_true.1 h c hc
  simpa using this)
 have := utf_of_vu hv;exact ⟨by simpa using this, hs⟩
theorem words_low {L : List ByteArray} (h : ∀ s ∈ L, s.data.toList.all (fun c => decide (c.toNat < 128)) = true /\ s.size <= 20) : ∀ s ∈ L, WordOk s := fun s hs => word_low (h s hs).1 (h s hs).2
theorem word_texts {l : List Int} (h : l.length <= 5) : WordOk ⟨(textsI l).toArray⟩ := by
 refine ⟨utf_of_vu (VU.texts l), ?_⟩;have := textsI_len l;rw [size_list];omega
theorem WordOk.str {s : ByteArray} (h : WordOk s) : strB s = true := by
 unfold strB;rw [h.1, Bool.and_true];exact decide_eq_true (Nat.le_trans h.2 (by decide))
theorem WordOk.quote {s : ByteArray} (h : WordOk s) : (quoteB s).data.toList.length <= 122 := by
 have := quote_len s;have := h.2;omega
end Go.Proofs.YtohcpifekcehjaaGreatDoor
