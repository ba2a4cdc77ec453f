/- Steps to FnExactIndentedOk and FnExactIndentedNormal and FnExactCrossed. No conditions. -/
import Derived.Test.YtohcpifekcehjaaGreatDoorKind8
import Derived.Deep.CutRange
import Derived.Deep.CutBlock
import Derived.Test.YtohcpifekcehjaaGreatDoorKind6
import Derived.Test.YtohcpifekcehjaaGreatDoorKind7
import Derived.Test.YtohcpifekcehjaaGreatDoorKind3
import Derived.Test.YtohcpifekcehjaaGreatDoorKind2
import Derived.Test.YtohcpifekcehjaaGreatDoorKind4
set_option maxHeartbeats 16000000
set_option maxRecDepth 20000
namespace Go.Proofs.YtohcpifekcehjaaGreatDoor
open Go.RowKit Go.Lib
def T_sayS (n : Nat) : Prop := ∀ (d : TreeD) (cs : List Value) (w : World) (lo base nn c : Nat) (A : Option Addr) (M : List UInt8), C_Tree n lo base w d cs -> shapeT n d = true -> base <= w.heap.size -> nn + 5000 * sizeT n d <= 1073741824 -> BufN base w M nn (.slice A nn c) ->
  Calls Tryz.prog 85 #[.agg cs.toArray, .slice A nn c] w fun e w' => ∃ (A' : Option Addr) (c' : Nat), e = .returned (.slice A' (nn + (sayL n d).length) c') /\ BufN base w' (M ++ sayL n d) (nn + (sayL n d).length) (.slice A' (nn + (sayL n d).length) c') /\ Grb w (.slice A nn c) w' (.slice A' (nn + (sayL n d).length) c')
theorem of_sayS (n : Nat) (ih : T_sayS n) : T_sayS (n + 1) := by
 intro d cs w lo base nn c A M h hsh hbw hsz hbuf
 have hlen := say_len (n + 1) d hsh (num_of h)
 have hS := sayL_succ n d
 have HSh := hid hsh
 have HNum := hid (num_of h)
 obtain ⟨v4, v5, rfl, a0, a2, a3, a4, a5⟩ := C_Tree.out h
 obtain ⟨A4, c4, rfl, hlk, hck, hK⟩ := a4
 obtain ⟨A5, c5, rfl, hlc, hcc, hA⟩ := a5
 have hsk : ∀ k t, d.kids[k]? = some t -> szL (sizeT n) (d.kids.take k) + sizeT n t + 1 <= sizeT (n + 1) d := fun k t ht => size_kid ht
 have HSk := hid hsk
 have hbd : badH d = false := (shape_parts hsh).1
 have hls : lensOk d = true := (shape_parts hsh).2.2.1
 clear h hsk hsh
 obtain ⟨S, hSz⟩ : ∃ S, S = sizeT (n + 1) d := ⟨_, rfl⟩
 rw [<- hSz] at hlen hsz HSk
 obtain ⟨r, hr⟩ : ∃ r, r = sayL (n + 1) d := ⟨_, rfl⟩
 rw [<- hr] at hlen hS ⊢
 have HS := hid hS
 have HSz := hid (show S = 1 + szL (sizeT n) d.kids from hSz)
 clear hr hS hSz
 obtain ⟨dk, df, dn, dt, dks, dkd⟩ := d
 simp only at a0 a2 a3 hlk hK hlc hA HS HSk HSz hbd hls ⊢
 unfold badH at hbd
 unfold lensOk at hls
 simp only [Bool.or_eq_false_iff, Bool.not_eq_false', Bool.and_eq_false_iff] at hbd
 have hin : inB dk 1 6 = true := hbd.1.1.1.1.1
 have hk6 : 1 <= dk /\ dk <= 6 := by unfold inB at hin; exact of_decide_eq_true hin
 obtain ⟨W0, hW0⟩ : ∃ W, W = w.alloc (.cells #[.int .i64 dk, .bool df, .int .i64 dn, .string dt, .slice A4 dks.length c4, .slice A5 dkd.length c5] 34) := ⟨_, rfl⟩
 have hB0 : Below w.heap.size w W0 := by rw [hW0]; exact bel
 have HR0 := hid (show W0.heap[w.heap.size]? = some (.cells #[.int .i64 dk, .bool df, .int .i64 dn, .string dt, .slice A4 dks.length c4, .slice A5 dkd.length c5] 34 (0, 0)) by rw [hW0]; exact heap_at rfl)
 have HW0 := hid hW0
 have hbuf0 := hbuf.below hB0
 have hbW0 : base <= W0.heap.size := Nat.le_trans hbw hB0.size
 have hG0 := hid (Grb.of (.slice A nn c) hB0)
 have HBf0 := hid hbuf0
 have Hbd := hid hbd
 clear hW0 hin hbd
 obtain ⟨x0, x1, x2, x3, x4, x5, xf⟩ := row6 HR0.out
 have l0 := row_lt HR0.out
 by_cases k1 : dk = 1
 ·subst k1
  have HX := hid (show r = litN from HS.out)
  obtain ⟨A6, c6, w5, hr5, h5, g5⟩ := bufN_str W0 base nn c A M ⟨#[110, 117, 108, 108]⟩ hbuf0 (by show nn + 4 <= _; omega) hbW0
  have H5 := hid (And.intro h5 (hG0.out.trans g5))
  clear h5 g5 hK hA
  go_enter Tryz.func85, Tryz.ntmps85
  go_upto_region 1 with fail
  rw [<- HW0.out]
  go_wp2_with (at_builtin; refine wpList_append_to rfl (.tmp 11) (.const (.string ⟨#[110, 117, 108, 108]⟩)) 28 9 rfl _ _ _ w5 rfl rfl hr5 ?_)
  go_ret
  rw [HX.out]
  exact ⟨A6, c6, rfl, H5.out.1, H5.out.2⟩
 by_cases k2 : dk = 2
 ·subst k2
  have HX := hid (show r = boolL df from HS.out)
  clear hK hA
  rcases df with _ | _
  ·obtain ⟨A6, c6, w5, hr5, h5, g5⟩ := bufN_str W0 base nn c A M ⟨#[102, 97, 108, 115, 101]⟩ hbuf0 (by show nn + 5 <= _; omega) hbW0
   have H5 := hid (And.intro h5 (hG0.out.trans g5))
   clear h5 g5
   go_enter Tryz.func85, Tryz.ntmps85
   go_upto_region 1 with fail
   rw [<- HW0.out]
   go_wp2_with (at_builtin; refine wpList_append_to rfl (.tmp 19) (.const (.string ⟨#[102, 97, 108, 115, 101]⟩)) 28 9 rfl _ _ _ w5 rfl rfl hr5 ?_)
   go_ret
   rw [HX.out]
   exact ⟨A6, c6, rfl, H5.out.1, H5.out.2⟩
  ·obtain ⟨A6, c6, w5, hr5, h5, g5⟩ := bufN_str W0 base nn c A M ⟨#[116, 114, 117, 101]⟩ hbuf0 (by show nn + 4 <= _; omega) hbW0
   have H5 := hid (And.intro h5 (hG0.out.trans g5))
   clear h5 g5
   go_enter Tryz.func85, Tryz.ntmps85
   go_upto_region 1 with fail
   rw [<- HW0.out]
   go_wp2_with (at_builtin; refine wpList_append_to rfl (.tmp 17) (.const (.string ⟨#[116, 114, 117, 101]⟩)) 28 9 rfl _ _ _ w5 rfl rfl hr5 ?_)
   go_ret
   rw [HX.out]
   exact ⟨A6, c6, rfl, H5.out.1, H5.out.2⟩
 by_cases k3 : dk = 3
 ·subst k3
  have HX := hid (show r = (decS dn).data.toList from HS.out)
  have hds := decS_size dn a2
  clear hK hA
  go_enter Tryz.func85, Tryz.ntmps85
  go_upto_region 1 with fail
  rw [<- HW0.out]
  go_wp2_with fail
  refine (c_spec_Decimal dn W0 a2).mono ?_
  rintro e w4 ⟨rfl, hb4⟩
  obtain ⟨A6, c6, w5, hr5, h5, g5⟩ := bufN_str w4 base nn c A M (decS dn) (HBf0.out.below hb4) (by omega) (Nat.le_trans hbW0 hb4.size)
  have H5 := hid (And.intro h5 ((hG0.out.trans (Grb.of _ hb4)).trans g5))
  clear h5 g5 hb4
  go_wp2_with (at_builtin; refine wpList_append_to rfl (.tmp 23) (.tmp 26) 28 9 rfl _ _ _ w5 rfl rfl hr5 ?_)
  go_ret
  rw [HX.out, show (decS dn).data.toList.length = (decS dn).size from Array.length_toList]
  exact ⟨A6, c6, rfl, H5.out.1, H5.out.2⟩
 by_cases k4 : dk = 4
 ·subst k4
  have HX := hid (show r = (quoteB dt).data.toList from HS.out)
  have hds := quote_len dt
  have hqe : (quoteB dt).data.toList.length = (quoteB dt).size := Array.length_toList
  have hst : dt.size <= 400 := by
   have h2 := (shape_parts HSh.out).2.1
   unfold strB at h2
   simp only [Bool.and_eq_true, decide_eq_true_eq] at h2
   exact h2.1
  clear hK hA
  go_enter Tryz.func85, Tryz.ntmps85
  go_upto_region 1 with fail
  rw [<- HW0.out]
  go_wp2_with fail
  refine (c_spec_Quoted dt W0 (by omega)).mono ?_
  rintro e w4 ⟨rfl, hb4⟩
  obtain ⟨A6, c6, w5, hr5, h5, g5⟩ := bufN_str w4 base nn c A M (quoteB dt) (HBf0.out.below hb4) (by omega) (Nat.le_trans hbW0 hb4.size)
  have H5 := hid (And.intro h5 ((hG0.out.trans (Grb.of _ hb4)).trans g5))
  clear h5 g5 hb4 hqe
  go_wp2_with (at_builtin; refine wpList_append_to rfl (.tmp 30) (.tmp 33) 28 9 rfl _ _ _ w5 rfl rfl hr5 ?_)
  go_ret
  rw [HX.out, show (quoteB dt).data.toList.length = (quoteB dt).size from Array.length_toList]
  exact ⟨A6, c6, rfl, H5.out.1, H5.out.2⟩
 have e1 : (dk == 1) = false := beq_eq_false_iff_ne.2 k1
 have e2 : (dk == 2) = false := beq_eq_false_iff_ne.2 k2
 have e3 : (dk == 3) = false := beq_eq_false_iff_ne.2 k3
 have e4 : (dk == 4) = false := beq_eq_false_iff_ne.2 k4
 by_cases k5 : dk = 5
 ·subst k5
  have HX := hid (show r = [91] ++ itemsT (fun _ => []) (sayL n) dkd dkd.length ++ [93] from HS.out)
  obtain ⟨A6, c6, w5, hr5, h5, g5⟩ := bufN_lit W0 base nn c 1 A M [91] [.int .u8 91] hbuf0 rfl rfl (by omega) (by decide) hbW0
  have H5 := hid (And.intro h5 g5)
  have hrow5 := (g5.keep l0 (fun e => by have := (hbuf.lt e).2; omega)).trans HR0.out
  have HR5 := hid hrow5
  have hs5 := g5.grown.size
  clear h5 g5 hrow5 k1 k2 k3 k4
  go_enter Tryz.func85, Tryz.ntmps85
  go_upto_region 1 with fail
  rw [<- HW0.out]
  go_upto_region 14 with (at_builtin; refine wpList_append_of rfl (.tmp 37) (.tmp 38) 28 rfl _ _ _ w5 rfl rfl hr5 ?_)
  clear x0 x1 x2 x3 x4 x5 xf
  obtain ⟨x0, x1, x2, x3, x4, x5, xf⟩ := row6 HR5.out
  have l5 := row_lt HR5.out
  go_wp2_with fail
  go_loopw [1, 5] (fun s0 v wr => ∃ (k N : Nat) (A' : Option Addr) (c' : Nat), k <= dkd.length /\ v = .int .i64 k /\ s0 = .slice A' N c' /\ BufN base wr (M ++ ([91] ++ itemsT (fun _ => []) (sayL n) dkd k)) N (.slice A' N c') /\ Grb W0 (.slice A nn c) wr (.slice A' N c') /\ wr.heap[w.heap.size]? = some (.cells #[.int .i64 5, .bool df, .int .i64 dn, .string dt, .slice A4 dks.length c4, .slice A5 dkd.length c5] 34 (0, 0))) (fun _ v _ => dkd.length - (Lib.intOf v).toNat)
  case atStart => exact ⟨0, nn + 1, A6, c6, Nat.zero_le _, rfl, rfl, H5.out.1, H5.out.2, HR5.out⟩
  case round =>
   clear x0 x1 x2 x3 x4 x5 xf l5 hs5
   obtain ⟨k, N, A', c', hk, rfl, rfl, hbf, hgr, hT⟩ := hrel
   have HT := hid hT
   have HBf := hid hbf
   have HGr := hid hgr
   have hbr : Below base w wr := (hG0.out.trans hgr).below hbuf.2 hbw
   have hitl := items_len (pre := (fun _ => [])) (f := sayL n) (g := sizeT n) (l := dkd) (fun _ => Nat.zero_le _) (fun t ht => by
    obtain ⟨i, hi⟩ := List.getElem?_of_mem ht
    exact say_len n t (shape_kid HSh.out hi) (HNum.out.2 t ht)) k hk
   have hNl : N = nn + (1 + (itemsT (fun _ => []) (sayL n) dkd k).length) := by
    rw [hbf.1, List.length_append, List.length_append, <- hbuf.1]; rfl
   have hbwr : base <= wr.heap.size := Nat.le_trans hbW0 hgr.grown.size
   have HNl := hid hNl
   have hNb : N <= nn + 1 + 5000 * szL (sizeT n) (dkd.take k) := by omega
   have hgs := hgr.grown.size
   clear hT hbf hgr hNl hitl
   obtain ⟨x0, x1, x2, x3, x4, x5, xf⟩ := row6 HT.out
   have l1 := row_lt HT.out
   by_cases hlt : k < dkd.length
   ·obtain ⟨p, o, rfl, -, hbl, hcell⟩ := hA (by omega)
    obtain ⟨t, ht⟩ := exists_at hlt
    obtain ⟨es, -, hcs, hC⟩ := hcell k t ht
    obtain ⟨eA4, ec4, eA5, ec5, rfl, ea0, ea2, ea3⟩ := hC.flat
    have hk0 : (0 : Int) <= k := by omega
    have hk1 : (k : Int) < dkd.length := by omega
    have hsk := HSk.out k t ht
    have HC := hid hC
    have HIt := hid (items_next (pre := (fun _ => [])) (f := sayL n) ht)
    have HSt := hid (shape_kid HSh.out ht)
    have hsayl := say_len n t (shape_kid HSh.out ht) (HNum.out.2 t (List.mem_of_getElem? ht))
    have hneA : ∀ q, (Value.slice A' N c').ownBlock = some q -> q ≠ w.heap.size /\ q < wr.heap.size := fun q hq => by
     refine ⟨?_, (HBf.out.lt hq).2⟩
     rcases HGr.out.at' q hq with h1 | h1
     ·have := (hbuf.lt h1).2
      omega
     ·have := row_lt HR0.out
      omega
    have HneA := hid hneA
    have hszk : N + 1 + 2404 + 5000 * sizeT n t <= 1073741824 := by omega
    have HKx := hid (trivial)
    clear hcell hA hC ht hneA hK
    go_upto_if 48 with fail
    go_cut [1] from 47 to 51 (fun s0 wx => ∃ (A1 : Option Addr) (c1 N1 : Nat), s0 = .slice A1 N1 c1 /\ N1 <= N + 1 /\ BufN base wx (M ++ ([91] ++ itemsT (fun _ => []) (sayL n) dkd k) ++ (if k = 0 then [] else [44])) N1 (.slice A1 N1 c1) /\ Grb wr (.slice A' N c') wx (.slice A1 N1 c1))
    case first =>
     clear hcs
     by_cases hk00 : k = 0
     ·have HP := hid (show (if k = 0 then ([] : List UInt8) else [44]) = [] from if_pos hk00)
      have hp0 : ¬ 0 < k := by omega
      clear hk00
      go_wp2_with fail
      go_meet
      exact ⟨A', c', N, rfl, by omega, by rw [HP.out, List.append_nil]; exact HBf.out, Grb.of _ (Below.refl _ _)⟩
     ·have HP := hid (show (if k = 0 then ([] : List UInt8) else [44]) = [44] from if_neg hk00)
      have hp0 : 0 < k := by omega
      clear hk00
      obtain ⟨A7, c7, w7, hr7, h7, g7⟩ := bufN_lit wr base N c' 1 A' _ [44] [.int .u8 44] HBf.out rfl rfl (by omega) (by decide) hbwr
      have H7 := hid (And.intro h7 g7)
      clear h7 g7
      go_wp2_with (at_builtin; refine wpList_append_of rfl (.tmp 49) (.tmp 50) 28 rfl _ _ _ w7 rfl rfl hr7 ?_)
      go_meet
      exact ⟨A7, c7, N + 1, rfl, Nat.le_refl _, by rw [HP.out]; exact H7.out.1, H7.out.2⟩
    case rest =>
     obtain ⟨A1, c1, N1, rfl, hN1, hb1, hg1⟩ := hcut
     have HT1 := hid ((hg1.keep l1 (fun e => (HneA.out _ e).1 rfl)).trans HT.out)
     have HB1 := hid hb1
     have HG1 := hid hg1
     have hs1 := hg1.grown.size
     have HA1 := hid (show ∀ q, (Value.slice A1 N1 c1).ownBlock = some q -> q ≠ w.heap.size from fun q hq => by
      rcases hg1.at' q hq with h1 | h1
      ·exact (HneA.out q h1).1
      ·omega)
     clear hb1 hg1 x0 x1 x2 x3 x4 x5 xf
     obtain ⟨x0, x1, x2, x3, x4, x5, xf⟩ := row6 HT1.out
     have lx := row_lt HT1.out
     have hbq := ((hG0.out.trans HGr.out).trans HG1.out).below hbuf.2 hbw
     have hc0 := (hbq.cell (p := ⟨p, o + k * 6 + 0, none⟩) (by simp; omega)).trans (hcs 0 (by omega))
     simp at hc0
     have hc1 := (hbq.cell (p := ⟨p, o + k * 6 + 1, none⟩) (by simp; omega)).trans (hcs 1 (by omega))
     simp at hc1
     have hc2 := (hbq.cell (p := ⟨p, o + k * 6 + 2, none⟩) (by simp; omega)).trans (hcs 2 (by omega))
     simp at hc2
     have hc3 := (hbq.cell (p := ⟨p, o + k * 6 + 3, none⟩) (by simp; omega)).trans (hcs 3 (by omega))
     simp at hc3
     have hc4 := (hbq.cell (p := ⟨p, o + k * 6 + 4, none⟩) (by simp; omega)).trans (hcs 4 (by omega))
     simp at hc4
     have hc5 := (hbq.cell (p := ⟨p, o + k * 6 + 5, none⟩) (by simp; omega)).trans (hcs 5 (by omega))
     simp at hc5
     clear hcs
     have hpw : p < wc.heap.size := by omega
     clear hbq
     go_wp2_with fail
     refine (ih t _ wc lo base N1 c1 A1 _ (HC.out.old (((hG0.out.trans HGr.out).trans (HG1.out)).below hbuf.2 hbw)) HSt.out (by omega) (by omega) HB1.out).mono ?_
     rintro e w9 ⟨A9, c9, rfl, h9, g9⟩
     have HT9 := hid ((g9.keep lx (fun e => (HA1.out _ e) rfl)).trans HT1.out)
     have H9 := hid h9
     have HG9 := hid ((HGr.out.trans (HG1.out)).trans g9)
     clear h9 g9
     go_wp2_with fail
     go_roundw
     case rel => exact ⟨k + 1, N1 + (sayL n t).length, A9, c9, by omega, by go_num, rfl, by rw [HIt.out]; simpa only [List.append_assoc, List.nil_append] using H9.out, HG9.out, HT9.out⟩
     case measure => simp [Lib.intOf]; omega
   ·obtain rfl : k = dkd.length := by omega
    have hke : decide (dkd.length < dkd.length) = false := decide_eq_false (Nat.lt_irrefl _)
    have hNz : N <= 1073741824 := by
     have := hNb
     rw [List.take_of_length_le (Nat.le_refl _)] at this
     have h2 : S = 1 + szL (sizeT n) dkd := HSz.out
     omega
    obtain ⟨A7, c7, w7, hr7, h7, g7⟩ := bufN_lit wr base N c' 1 A' _ [93] [.int .u8 93] HBf.out rfl rfl (by omega) (by decide) hbwr
    have H7 := hid (And.intro h7 (hG0.out.trans (HGr.out.trans g7)))
    have HN7 := hid (show N + 1 = nn + r.length by rw [HX.out, HNl.out]; simp only [List.length_append, List.length_cons, List.length_nil]; omega)
    clear h7 g7 hA hK
    go_wp2_with (at_builtin; refine wpList_append_of rfl (.tmp 59) (.tmp 60) 28 rfl _ _ _ w7 rfl rfl hr7 ?_)
    go_ret
    rw [<- HN7.out, HX.out]
    exact ⟨A7, c7, rfl, by rw [List.append_assoc] at H7; rw [<- HX.out] at *; exact H7.out.1, H7.out.2⟩
 ·have k6 : dk = 6 := by omega
  subst k6
  have HX := hid (show r = [123] ++ itemsT (preM dks) (sayL n) dkd dkd.length ++ [125] from HS.out)
  have HLL := hid (show dks.length = dkd.length by simpa using hls)
  clear hls
  obtain ⟨A6, c6, w5, hr5, h5, g5⟩ := bufN_lit W0 base nn c 1 A M [123] [.int .u8 123] hbuf0 rfl rfl (by omega) (by decide) hbW0
  have H5 := hid (And.intro h5 g5)
  have hrow5 := (g5.keep l0 (fun e => by have := (hbuf.lt e).2; omega)).trans HR0.out
  have HR5 := hid hrow5
  have hs5 := g5.grown.size
  clear h5 g5 hrow5 k1 k2 k3 k4
  go_enter Tryz.func85, Tryz.ntmps85
  go_upto_region 1 with fail
  rw [<- HW0.out]
  go_upto_region 22 with (at_builtin; refine wpList_append_of rfl (.tmp 62) (.tmp 63) 28 rfl _ _ _ w5 rfl rfl hr5 ?_)
  clear x0 x1 x2 x3 x4 x5 xf
  obtain ⟨x0, x1, x2, x3, x4, x5, xf⟩ := row6 HR5.out
  have l5 := row_lt HR5.out
  go_wp2_with fail
  go_loopw [1, 6] (fun s0 v wr => ∃ (k N : Nat) (A' : Option Addr) (c' : Nat), k <= dkd.length /\ v = .int .i64 k /\ s0 = .slice A' N c' /\ BufN base wr (M ++ ([123] ++ itemsT (preM dks) (sayL n) dkd k)) N (.slice A' N c') /\ Grb W0 (.slice A nn c) wr (.slice A' N c') /\ wr.heap[w.heap.size]? = some (.cells #[.int .i64 6, .bool df, .int .i64 dn, .string dt, .slice A4 dks.length c4, .slice A5 dkd.length c5] 34 (0, 0))) (fun _ v _ => dkd.length - (Lib.intOf v).toNat)
  case atStart => exact ⟨0, nn + 1, A6, c6, Nat.zero_le _, rfl, rfl, H5.out.1, H5.out.2, HR5.out⟩
  case round =>
   clear x0 x1 x2 x3 x4 x5 xf l5 hs5
   obtain ⟨k, N, A', c', hk, rfl, rfl, hbf, hgr, hT⟩ := hrel
   have HT := hid hT
   have HBf := hid hbf
   have HGr := hid hgr
   have hbr : Below base w wr := (hG0.out.trans hgr).below hbuf.2 hbw
   have hitl := items_len (pre := (preM dks)) (f := sayL n) (g := sizeT n) (l := dkd) (pre_len HSh.out) (fun t ht => by
    obtain ⟨i, hi⟩ := List.getElem?_of_mem ht
    exact say_len n t (shape_kid HSh.out hi) (HNum.out.2 t ht)) k hk
   have hNl : N = nn + (1 + (itemsT (preM dks) (sayL n) dkd k).length) := by
    rw [hbf.1, List.length_append, List.length_append, <- hbuf.1]; rfl
   have hbwr : base <= wr.heap.size := Nat.le_trans hbW0 hgr.grown.size
   have HNl := hid hNl
   have hNb : N <= nn + 1 + 5000 * szL (sizeT n) (dkd.take k) := by omega
   have hgs := hgr.grown.size
   clear hT hbf hgr hNl hitl
   obtain ⟨x0, x1, x2, x3, x4, x5, xf⟩ := row6 HT.out
   have l1 := row_lt HT.out
   by_cases hlt : k < dkd.length
   ·obtain ⟨p, o, rfl, -, hbl, hcell⟩ := hA (by omega)
    obtain ⟨t, ht⟩ := exists_at hlt
    obtain ⟨es, -, hcs, hC⟩ := hcell k t ht
    obtain ⟨eA4, ec4, eA5, ec5, rfl, ea0, ea2, ea3⟩ := hC.flat
    have hk0 : (0 : Int) <= k := by omega
    have hk1 : (k : Int) < dkd.length := by omega
    have hsk := HSk.out k t ht
    have HC := hid hC
    have HIt := hid (items_next (pre := (preM dks)) (f := sayL n) ht)
    have HSt := hid (shape_kid HSh.out ht)
    have hsayl := say_len n t (shape_kid HSh.out ht) (HNum.out.2 t (List.mem_of_getElem? ht))
    have hneA : ∀ q, (Value.slice A' N c').ownBlock = some q -> q ≠ w.heap.size /\ q < wr.heap.size := fun q hq => by
     refine ⟨?_, (HBf.out.lt hq).2⟩
     rcases HGr.out.at' q hq with h1 | h1
     ·have := (hbuf.lt h1).2
      omega
     ·have := row_lt HR0.out
      omega
    have HneA := hid hneA
    have hszk : N + 1 + 2404 + 5000 * sizeT n t <= 1073741824 := by omega
    have HKx := hid (hK)
    clear hcell hA hC ht hneA hK
    go_upto_if 73 with fail
    go_cut [1] from 72 to 76 (fun s0 wx => ∃ (A1 : Option Addr) (c1 N1 : Nat), s0 = .slice A1 N1 c1 /\ N1 <= N + 1 /\ BufN base wx (M ++ ([123] ++ itemsT (preM dks) (sayL n) dkd k) ++ (if k = 0 then [] else [44])) N1 (.slice A1 N1 c1) /\ Grb wr (.slice A' N c') wx (.slice A1 N1 c1))
    case first =>
     clear hcs
     by_cases hk00 : k = 0
     ·have HP := hid (show (if k = 0 then ([] : List UInt8) else [44]) = [] from if_pos hk00)
      have hp0 : ¬ 0 < k := by omega
      clear hk00
      go_wp2_with fail
      go_meet
      exact ⟨A', c', N, rfl, by omega, by rw [HP.out, List.append_nil]; exact HBf.out, Grb.of _ (Below.refl _ _)⟩
     ·have HP := hid (show (if k = 0 then ([] : List UInt8) else [44]) = [44] from if_neg hk00)
      have hp0 : 0 < k := by omega
      clear hk00
      obtain ⟨A7, c7, w7, hr7, h7, g7⟩ := bufN_lit wr base N c' 1 A' _ [44] [.int .u8 44] HBf.out rfl rfl (by omega) (by decide) hbwr
      have H7 := hid (And.intro h7 g7)
      clear h7 g7
      go_wp2_with (at_builtin; refine wpList_append_of rfl (.tmp 74) (.tmp 75) 28 rfl _ _ _ w7 rfl rfl hr7 ?_)
      go_meet
      exact ⟨A7, c7, N + 1, rfl, Nat.le_refl _, by rw [HP.out]; exact H7.out.1, H7.out.2⟩
    case rest =>
     obtain ⟨A1, c1, N1, rfl, hN1, hb1, hg1⟩ := hcut
     have HT1 := hid ((hg1.keep l1 (fun e => (HneA.out _ e).1 rfl)).trans HT.out)
     have HB1 := hid hb1
     have HG1 := hid hg1
     have hs1 := hg1.grown.size
     have HA1 := hid (show ∀ q, (Value.slice A1 N1 c1).ownBlock = some q -> q ≠ w.heap.size from fun q hq => by
      rcases hg1.at' q hq with h1 | h1
      ·exact (HneA.out q h1).1
      ·omega)
     clear hb1 hg1 x0 x1 x2 x3 x4 x5 xf
     obtain ⟨x0, x1, x2, x3, x4, x5, xf⟩ := row6 HT1.out
     have lx := row_lt HT1.out
     have hbwc := ((hG0.out.trans HGr.out).trans HG1.out).below hbuf.2 hbw
     obtain ⟨q, oq, rfl, -, hql, hqc⟩ := HKx.out (by have := HLL.out; omega)
     obtain ⟨s, hs⟩ := exists_at (show k < dks.length by have := HLL.out; omega)
     obtain ⟨es', -, hcs', rfl, hss⟩ := hqc k s hs
     have hkc := (hbwc.cell (p := ⟨q, oq + k * 1 + 0, none⟩) hql).trans (hcs' 0 (by omega))
     simp at hkc
     have hqw : q < wc.heap.size := by have := hG0.out.grown.size; omega
     have hk2 : (k : Int) < dks.length := by have := HLL.out; omega
     have hs4 := shape_key HSh.out hs
     have hql2 := quote_len s
     have hqe : (quoteB s).data.toList.length = (quoteB s).size := Array.length_toList
     have HPz := hid (show preM dks k = (quoteB s).data.toList ++ [58] by unfold preM; rw [hs])
     have HQC := hid (c_spec_Quoted s wc (by omega))
     have hb01 : (quoteB s).size <= 2402 := by omega
     clear hcs' hqc hs hqe hql2 hbwc
     go_wp2_with fail
     refine HQC.out.mono ?_
     rintro e w4 ⟨rfl, hb4⟩
     have hs44 := hb4.size
     obtain ⟨A2, c2, w5, hr5, h5, g5⟩ := bufN_str w4 base N1 c1 A1 _ (quoteB s) (HB1.out.below hb4) (by omega) (by omega)
     have hs55 := g5.grown.size
     obtain ⟨A3, c3, w6, hr6, h6, g6⟩ := bufN_lit w5 base (N1 + (quoteB s).size) c2 1 A2 _ [58] [.int .u8 58] h5 rfl rfl (by omega) (by decide) (by omega)
     have hs66 := g6.grown.size
     have HG5 := hid (((HG1.out.trans (Grb.of _ hb4)).trans g5).trans g6)
     have hbq := ((hG0.out.trans HGr.out).trans HG5.out).below hbuf.2 hbw
     have HT5 := hid ((HG5.out.keep l1 (fun e => (HneA.out _ e).1 rfl)).trans HT.out)
     have HB5 := hid h6
     have HA5 := hid (show ∀ q, (Value.slice A3 (N1 + (quoteB s).size + 1) c3).ownBlock = some q -> q ≠ w.heap.size from fun q hq => by
      rcases HG5.out.at' q hq with h1 | h1
      ·exact (HneA.out q h1).1
      ·omega)
     have hc0 := (hbq.cell (p := ⟨p, o + k * 6 + 0, none⟩) (by simp; omega)).trans (hcs 0 (by omega))
     simp at hc0
     have hc1 := (hbq.cell (p := ⟨p, o + k * 6 + 1, none⟩) (by simp; omega)).trans (hcs 1 (by omega))
     simp at hc1
     have hc2 := (hbq.cell (p := ⟨p, o + k * 6 + 2, none⟩) (by simp; omega)).trans (hcs 2 (by omega))
     simp at hc2
     have hc3 := (hbq.cell (p := ⟨p, o + k * 6 + 3, none⟩) (by simp; omega)).trans (hcs 3 (by omega))
     simp at hc3
     have hc4 := (hbq.cell (p := ⟨p, o + k * 6 + 4, none⟩) (by simp; omega)).trans (hcs 4 (by omega))
     simp at hc4
     have hc5 := (hbq.cell (p := ⟨p, o + k * 6 + 5, none⟩) (by simp; omega)).trans (hcs 5 (by omega))
     simp at hc5
     clear hcs
     have hpw : p < w6.heap.size := by omega
     clear h5 g5 h6 g6 hb4 hbq x0 x1 x2 x3 x4 x5 xf hkc
     obtain ⟨x0, x1, x2, x3, x4, x5, xf⟩ := row6 HT5.out
     have lx5 := row_lt HT5.out
     go_wp2_with (first | (at_builtin; refine wpList_append_to rfl (.tmp 77) (.tmp 83) 28 9 rfl _ _ _ w5 rfl rfl hr5 ?_) | (at_builtin; refine wpList_append_of rfl (.tmp 85) (.tmp 86) 28 rfl _ _ _ w6 rfl rfl hr6 ?_))
     refine (ih t _ w6 lo base (N1 + (quoteB s).size + 1) c3 A3 _ (HC.out.old (((hG0.out.trans HGr.out).trans (HG5.out)).below hbuf.2 hbw)) HSt.out (by omega) (by omega) HB5.out).mono ?_
     rintro e w9 ⟨A9, c9, rfl, h9, g9⟩
     have HT9 := hid ((g9.keep lx5 (fun e => HA5.out _ e rfl)).trans HT5.out)
     have H9 := hid h9
     have HG9 := hid ((HGr.out.trans (HG5.out)).trans g9)
     clear h9 g9
     go_wp2_with fail
     go_roundw
     case rel => exact ⟨k + 1, (N1 + (quoteB s).size + 1) + (sayL n t).length, A9, c9, by omega, by go_num, rfl, by rw [HIt.out, HPz.out]; simpa only [List.append_assoc, List.nil_append] using H9.out, HG9.out, HT9.out⟩
     case measure => simp [Lib.intOf]; omega
   ·obtain rfl : k = dkd.length := by omega
    have hke : decide (dkd.length < dkd.length) = false := decide_eq_false (Nat.lt_irrefl _)
    have hNz : N <= 1073741824 := by
     have := hNb
     rw [List.take_of_length_le (Nat.le_refl _)] at this
     have h2 : S = 1 + szL (sizeT n) dkd := HSz.out
     omega
    obtain ⟨A7, c7, w7, hr7, h7, g7⟩ := bufN_lit wr base N c' 1 A' _ [125] [.int .u8 125] HBf.out rfl rfl (by omega) (by decide) hbwr
    have H7 := hid (And.intro h7 (hG0.out.trans (HGr.out.trans g7)))
    have HN7 := hid (show N + 1 = nn + r.length by rw [HX.out, HNl.out]; simp only [List.length_append, List.length_cons, List.length_nil]; omega)
    clear h7 g7 hA hK
    go_wp2_with (at_builtin; refine wpList_append_of rfl (.tmp 95) (.tmp 96) 28 rfl _ _ _ w7 rfl rfl hr7 ?_)
    go_ret
    rw [<- HN7.out, HX.out]
    exact ⟨A7, c7, rfl, by rw [List.append_assoc] at H7; rw [<- HX.out] at *; exact H7.out.1, H7.out.2⟩
theorem all_sayS : ∀ n, T_sayS n
 | 0 => fun _ _ _ _ _ _ _ _ _ h _ _ _ _ => (C_Tree.none h).elim
 | n + 1 => of_sayS n (all_sayS n)
def bracedB (n : Nat) (d : TreeD) : ByteArray := if okT n d = true then (if 20000 < (sayL n d).length then ⟨#[]⟩ else ⟨(sayL n d).toArray⟩) else ⟨#[]⟩
theorem okT_parts {n : Nat} {d : TreeD} (h : okT n d = true) : sizeT n d <= 300 /\ shapeT n d = true := by
 unfold okT at h
 simp only [Bool.and_eq_true] at h
 exact ⟨of_decide_eq_true h.1.2, h.2⟩
theorem bufN_nil (base : Nat) (w : World) : BufN base w [] 0 (.slice none 0 0) := ⟨rfl, World.ownsRow_nil _ _ _ _⟩
theorem bufN_empty (w : World) (hB : ∀ {w : World} {e : TypeId} {size base B : Nat}, B = w.heap.size -> base <= w.heap.size -> (w.alloc (.cells #[] e)).ownsRow base e size (.slice (some ⟨B, 0, none⟩) 0 0) 0 []) (base : Nat) (hb : base <= w.heap.size) : BufN base (w.alloc (.cells #[] 5)) [] 0 (.slice (some ⟨w.heap.size, 0, none⟩) 0 0) := ⟨rfl, hB rfl hb⟩
theorem c_impl_BracedText (n : Nat) (d : TreeD) (cs : List Value) (w : World) (lo : Nat) (h : C_Tree n lo w.heap.size w d cs) (hz : sizeT n d <= 1073741824) (hT : Tabs w) (hP : Pow w) :
  Calls Tryz.prog 46 #[.agg cs.toArray] w fun e w' => e = .returned (.string (bracedB n d)) /\ Below w.heap.size w w' := by
 have HK := hid (fun (w' : World) (hb : Below w.heap.size w w') => c_impl_TreeOk n d cs w' lo (h.now hb) hz (hT.below hb))
 have HF := hid (show bracedB n d = if okT n d = true then (if 20000 < (sayL n d).length then ⟨#[]⟩ else ⟨(sayL n d).toArray⟩) else ⟨#[]⟩ from rfl)
 by_cases hok : okT n d = true
 ·obtain ⟨h3, hsh⟩ := okT_parts hok
  have HS := hid (fun (w' : World) (hb : Below w.heap.size w w') => all_sayI n d cs w' w lo w.heap.size 0 0 none [] (h.old hb) hsh hb.size (by omega) (bufN_nil _ _) hT hP (Nat.le_refl _) hb)
  obtain ⟨A4, c4, A5, c5, rfl⟩ := C_Tree.open h
  obtain ⟨r, hr⟩ : ∃ r, r = sayL n d := ⟨_, rfl⟩
  obtain ⟨b, hb⟩ : ∃ b, b = bracedB n d := ⟨_, rfl⟩
  rw [<- hr, <- hb] at HF
  rw [<- hr] at HS
  rw [hok] at HK HF
  rw [<- hb]
  simp only [Nat.zero_add, List.nil_append] at HS
  obtain ⟨m, hm⟩ : ∃ m, m = r.length := ⟨_, rfl⟩
  rw [<- hm] at HS HF
  have HM := hid hm
  have hsz : (⟨r.toArray⟩ : ByteArray).size = m := by rw [hm]; show r.toArray.size = r.length; simp
  clear h hr hb hok hm hz hsh h3 hT hP
  by_cases hlong : 20000 < m
  ·have dl : decide ((20000 : Int) < (m : Int)) = true := decide_eq_true (by omega)
   have HX := hid (show b = ⟨#[]⟩ by rw [HF.out, if_pos rfl, if_pos hlong])
   clear hlong
   go_enter Tryz.func46, Tryz.ntmps46
   go_upto_region 3 with (go_at_call 81; refine (HK.out _ bel).mono ?_; rintro e w1 ⟨rfl, hb⟩; (first | (have hcu2 := Cum.join hcu hb; (try clear hcu); (try clear hc); (try clear hfz); (try clear hsz); (try clear hs0); (try clear hs1); (try clear hs2); (try clear hs3); (try clear hs4); ) | have hcu2 := Cum.mk hb); have hcu := hcu2; clear hcu2; obtain ⟨hc, hfz⟩ := bcell hcu.h; have hsz := hcu.h.size; (try simp at hsz); (try have hs0 := lt_of_succ_le hsz); (try (have hs1 := lt_pred hsz; (try (have hs2 := lt_pred hs1; (try (have hs3 := lt_pred hs2; (try have hs4 := lt_pred hs3))))))))
   go_wp2_with fail
   refine (HS.out _ bel).mono ?_
   rintro e w9 ⟨A9, c9, rfl, h9, g9⟩
   have hcv := own_string HM.out (show w9.ownsRow w.heap.size 5 1 (.slice A9 m c9) m (Lib.strCells ⟨r.toArray⟩) from h9.2)
   have hb8 := g9.below (bufN_nil w.heap.size _).2 (show Below w.heap.size w _ from bel).size
   have hb9 : Below w.heap.size w w9 := Below.trans (show Below w.heap.size w _ from bel) hb8
   clear h9 g9 hb8
   go_wp2_with fail
   go_ret
   exact ⟨by rw [HX.out]; rfl, hb9⟩
  ·have dl : decide ((20000 : Int) < (m : Int)) = false := decide_eq_false (by omega)
   have HX := hid (show b = ⟨r.toArray⟩ by rw [HF.out, if_pos rfl, if_neg hlong])
   clear hlong
   go_enter Tryz.func46, Tryz.ntmps46
   go_upto_region 3 with (go_at_call 81; refine (HK.out _ bel).mono ?_; rintro e w1 ⟨rfl, hb⟩; (first | (have hcu2 := Cum.join hcu hb; (try clear hcu); (try clear hc); (try clear hfz); (try clear hsz); (try clear hs0); (try clear hs1); (try clear hs2); (try clear hs3); (try clear hs4); ) | have hcu2 := Cum.mk hb); have hcu := hcu2; clear hcu2; obtain ⟨hc, hfz⟩ := bcell hcu.h; have hsz := hcu.h.size; (try simp at hsz); (try have hs0 := lt_of_succ_le hsz); (try (have hs1 := lt_pred hsz; (try (have hs2 := lt_pred hs1; (try (have hs3 := lt_pred hs2; (try have hs4 := lt_pred hs3))))))))
   go_wp2_with fail
   refine (HS.out _ bel).mono ?_
   rintro e w9 ⟨A9, c9, rfl, h9, g9⟩
   have hcv := own_string HM.out (show w9.ownsRow w.heap.size 5 1 (.slice A9 m c9) m (Lib.strCells ⟨r.toArray⟩) from h9.2)
   have hb8 := g9.below (bufN_nil w.heap.size _).2 (show Below w.heap.size w _ from bel).size
   have hb9 : Below w.heap.size w w9 := Below.trans (show Below w.heap.size w _ from bel) hb8
   clear h9 g9 hb8
   go_wp2_with fail
   go_ret
   exact ⟨by rw [HX.out]; rfl, hb9⟩
 ·rw [Bool.not_eq_true] at hok
  obtain ⟨A4, c4, A5, c5, rfl⟩ := C_Tree.open h
  have HX := hid (show bracedB n d = ⟨#[]⟩ by rw [HF.out, if_neg (by rw [hok]; decide)])
  rw [hok] at HK
  clear h hok HF hz hT hP
  go_enter Tryz.func46, Tryz.ntmps46
  go_wp2_with (go_at_call 81; refine (HK.out _ bel).mono ?_; rintro e w1 ⟨rfl, hb⟩; (first | (have hcu2 := Cum.join hcu hb; (try clear hcu); (try clear hc); (try clear hfz); (try clear hsz); (try clear hs0); (try clear hs1); (try clear hs2); (try clear hs3); (try clear hs4); ) | have hcu2 := Cum.mk hb); have hcu := hcu2; clear hcu2; obtain ⟨hc, hfz⟩ := bcell hcu.h; have hsz := hcu.h.size; (try simp at hsz); (try have hs0 := lt_of_succ_le hsz); (try (have hs1 := lt_pred hsz; (try (have hs2 := lt_pred hs1; (try (have hs3 := lt_pred hs2; (try have hs4 := lt_pred hs3))))))))
  go_ret
  exact ⟨by rw [HX.out]; rfl, bel⟩
theorem c_spec_BracedText (n : Nat) (d : TreeD) (cs : List Value) (w : World) (lo : Nat) (h : C_Tree n lo w.heap.size w d cs) (hz : sizeT n d <= 1073741824)  :
  Calls Tryz.prog 45 #[.agg cs.toArray] w fun e w' => e = .returned (.string (bracedB n d)) /\ Below w.heap.size w w' := by
 have HK := hid (fun (w' : World) (hb : Below w.heap.size w w') => c_spec_TreeOk n d cs w' lo (h.now hb) hz)
 have HF := hid (show bracedB n d = if okT n d = true then (if 20000 < (sayL n d).length then ⟨#[]⟩ else ⟨(sayL n d).toArray⟩) else ⟨#[]⟩ from rfl)
 by_cases hok : okT n d = true
 ·obtain ⟨h3, hsh⟩ := okT_parts hok
  have HS := hid (fun (w' : World) (hb : Below w.heap.size w w') => all_sayS n d cs (w'.alloc (.cells #[] 5)) lo w.heap.size 0 0 (some ⟨w'.heap.size, 0, none⟩) [] (h.old (hb.trans (Below.mono (show Below w'.heap.size w' (w'.alloc (.cells #[] 5)) from bel) hb.size))) hsh (hb.trans (Below.mono (show Below w'.heap.size w' (w'.alloc (.cells #[] 5)) from bel) hb.size)).size (by omega) (bufN_empty w' own_empty _ hb.size))
  obtain ⟨A4, c4, A5, c5, rfl⟩ := C_Tree.open h
  obtain ⟨r, hr⟩ : ∃ r, r = sayL n d := ⟨_, rfl⟩
  obtain ⟨b, hb⟩ : ∃ b, b = bracedB n d := ⟨_, rfl⟩
  rw [<- hr, <- hb] at HF
  rw [<- hr] at HS
  rw [hok] at HK HF
  rw [<- hb]
  simp only [Nat.zero_add, List.nil_append] at HS
  obtain ⟨m, hm⟩ : ∃ m, m = r.length := ⟨_, rfl⟩
  rw [<- hm] at HS HF
  have HM := hid hm
  have hsz : (⟨r.toArray⟩ : ByteArray).size = m := by rw [hm]; show r.toArray.size = r.length; simp
  clear h hr hb hok hm hz hsh h3 
  by_cases hlong : 20000 < m
  ·have dl : decide ((20000 : Int) < (m : Int)) = true := decide_eq_true (by omega)
   have HX := hid (show b = ⟨#[]⟩ by rw [HF.out, if_pos rfl, if_pos hlong])
   clear hlong
   go_enter Tryz.func45, Tryz.ntmps45
   go_upto_region 3 with (go_at_call 22; refine (HK.out _ bel).mono ?_; rintro e w1 ⟨rfl, hb⟩; (first | (have hcu2 := Cum.join hcu hb; (try clear hcu); (try clear hc); (try clear hfz); (try clear hsz); (try clear hs0); (try clear hs1); (try clear hs2); (try clear hs3); (try clear hs4); ) | have hcu2 := Cum.mk hb); have hcu := hcu2; clear hcu2; obtain ⟨hc, hfz⟩ := bcell hcu.h; have hsz := hcu.h.size; (try simp at hsz); (try have hs0 := lt_of_succ_le hsz); (try (have hs1 := lt_pred hsz; (try (have hs2 := lt_pred hs1; (try (have hs3 := lt_pred hs2; (try have hs4 := lt_pred hs3))))))))
   go_wp2_with fail
   refine (HS.out _ bel).mono ?_
   rintro e w9 ⟨A9, c9, rfl, h9, g9⟩
   have hcv := own_string HM.out (show w9.ownsRow w.heap.size 5 1 (.slice A9 m c9) m (Lib.strCells ⟨r.toArray⟩) from h9.2)
   have hb8 := g9.below (bufN_empty _ own_empty w.heap.size (show Below w.heap.size w _ from bel).size).2 (show Below w.heap.size w _ from bel).size
   have hb9 : Below w.heap.size w w9 := Below.trans (show Below w.heap.size w _ from bel) hb8
   clear h9 g9 hb8
   go_wp2_with fail
   go_ret
   exact ⟨by rw [HX.out]; rfl, hb9⟩
  ·have dl : decide ((20000 : Int) < (m : Int)) = false := decide_eq_false (by omega)
   have HX := hid (show b = ⟨r.toArray⟩ by rw [HF.out, if_pos rfl, if_neg hlong])
   clear hlong
   go_enter Tryz.func45, Tryz.ntmps45
   go_upto_region 3 with (go_at_call 22; refine (HK.out _ bel).mono ?_; rintro e w1 ⟨rfl, hb⟩; (first | (have hcu2 := Cum.join hcu hb; (try clear hcu); (try clear hc); (try clear hfz); (try clear hsz); (try clear hs0); (try clear hs1); (try clear hs2); (try clear hs3); (try clear hs4); ) | have hcu2 := Cum.mk hb); have hcu := hcu2; clear hcu2; obtain ⟨hc, hfz⟩ := bcell hcu.h; have hsz := hcu.h.size; (try simp at hsz); (try have hs0 := lt_of_succ_le hsz); (try (have hs1 := lt_pred hsz; (try (have hs2 := lt_pred hs1; (try (have hs3 := lt_pred hs2; (try have hs4 := lt_pred hs3))))))))
   go_wp2_with fail
   refine (HS.out _ bel).mono ?_
   rintro e w9 ⟨A9, c9, rfl, h9, g9⟩
   have hcv := own_string HM.out (show w9.ownsRow w.heap.size 5 1 (.slice A9 m c9) m (Lib.strCells ⟨r.toArray⟩) from h9.2)
   have hb8 := g9.below (bufN_empty _ own_empty w.heap.size (show Below w.heap.size w _ from bel).size).2 (show Below w.heap.size w _ from bel).size
   have hb9 : Below w.heap.size w w9 := Below.trans (show Below w.heap.size w _ from bel) hb8
   clear h9 g9 hb8
   go_wp2_with fail
   go_ret
   exact ⟨by rw [HX.out]; rfl, hb9⟩
 ·rw [Bool.not_eq_true] at hok
  obtain ⟨A4, c4, A5, c5, rfl⟩ := C_Tree.open h
  have HX := hid (show bracedB n d = ⟨#[]⟩ by rw [HF.out, if_neg (by rw [hok]; decide)])
  rw [hok] at HK
  clear h hok HF hz 
  go_enter Tryz.func45, Tryz.ntmps45
  go_wp2_with (go_at_call 22; refine (HK.out _ bel).mono ?_; rintro e w1 ⟨rfl, hb⟩; (first | (have hcu2 := Cum.join hcu hb; (try clear hcu); (try clear hc); (try clear hfz); (try clear hsz); (try clear hs0); (try clear hs1); (try clear hs2); (try clear hs3); (try clear hs4); ) | have hcu2 := Cum.mk hb); have hcu := hcu2; clear hcu2; obtain ⟨hc, hfz⟩ := bcell hcu.h; have hsz := hcu.h.size; (try simp at hsz); (try have hs0 := lt_of_succ_le hsz); (try (have hs1 := lt_pred hsz; (try (have hs2 := lt_pred hs1; (try (have hs3 := lt_pred hs2; (try have hs4 := lt_pred hs3))))))))
  go_ret
  exact ⟨by rw [HX.out]; rfl, bel⟩
theorem whole_i64 (s : ByteArray) (j : Nat) : I64 (wholeB s j).1 := by
 unfold wholeB
 split
 ·split
  ·unfold wholeA
   split
   ·exact i64_zero
   ·rw [if_pos rfl]
    split
    ·unfold I64; simp only; omega
    ·exact i64_zero
  ·unfold wholeA
   split
   ·exact i64_zero
   ·rw [if_neg (by decide)]
    split
    ·unfold I64; simp only; omega
    ·exact i64_zero
 ·exact i64_zero
theorem plain_str {s : ByteArray} (h : plainB s = true) : strB s = true := by
 unfold plainB at h
 simp only [Bool.and_eq_true, decide_eq_true_eq] at h
 unfold strB
 rw [h.1.1.1.1.1.1.1.1.1.2, decide_eq_true h.1.1.1.1.1.1.1.1.1.1.2]
 rfl
theorem quot_str {s : ByteArray} {j : Nat} (h : 0 <= (quotB s j).2) (hs : (quotB s j).1.size <= 400) : strB (quotB s j).1 = true := by
 have h1 := (quotB_cost (s := s) (j := j) (by omega)).1
 unfold strB
 rw [h1, decide_eq_true hs]
 rfl
theorem scal_ok {s : ByteArray} {t : TreeD} (h : scalB s = some t) {N d : Nat} (hd : d <= 8) : VOk (N + 1) d t /\ sizeT (N + 1) t = 1 := by
 unfold scalB at h
 by_cases c1 : s = bs [91, 93]
 ·rw [if_pos c1] at h
  cases h
  exact leaf_ok hd (by unfold badH tList inB; simp) strB_empty (by unfold lensOk tList; simp) rfl rfl i64_zero
 rw [if_neg c1] at h
 by_cases c2 : s = bs [123, 125]
 ·rw [if_pos c2] at h
  cases h
  exact leaf_ok hd (by unfold badH tMap inB; simp) strB_empty (by unfold lensOk tMap; simp) rfl rfl i64_zero
 rw [if_neg c2] at h
 by_cases c3 : s = bs [110, 117, 108, 108] ∨ s = bs [126]
 ·rw [if_pos c3] at h
  cases h
  exact leaf_ok hd (by unfold badH tNull inB; simp) strB_empty (by unfold lensOk tNull; simp) rfl rfl i64_zero
 rw [if_neg c3] at h
 by_cases c4 : s = bs [116, 114, 117, 101]
 ·rw [if_pos c4] at h
  cases h
  exact leaf_ok hd (by unfold badH tFlag inB; simp) strB_empty (by unfold lensOk tFlag; simp) rfl rfl i64_zero
 rw [if_neg c4] at h
 by_cases c5 : s = bs [102, 97, 108, 115, 101]
 ·rw [if_pos c5] at h
  cases h
  exact leaf_ok hd (by unfold badH tFlag inB; simp) strB_empty (by unfold lensOk tFlag; simp) rfl rfl i64_zero
 rw [if_neg c5] at h
 by_cases c6 : 0 < s.size /\ byteI s 0 = 34
 ·rw [if_pos c6] at h
  by_cases c7 : (quotB s 0).2 = s.size /\ (quotB s 0).1.size <= 400
  ·rw [if_pos c7] at h
   cases h
   exact leaf_ok hd (by unfold badH tText inB; simp) (quot_str (by omega) c7.2) (by unfold lensOk tText; simp) rfl rfl i64_zero
  ·rw [if_neg c7] at h; cases h
 rw [if_neg c6] at h
 by_cases c8 : (wholeB s 0).2 = s.size /\ 0 < (wholeB s 0).2
 ·rw [if_pos c8] at h
  cases h
  exact leaf_ok hd (by unfold badH tInt inB; simp) strB_empty (by unfold lensOk tInt; simp) rfl rfl (whole_i64 s 0)
 rw [if_neg c8] at h
 by_cases c9 : plainB s = true
 ·rw [if_pos c9] at h
  cases h
  exact leaf_ok hd (by unfold badH tText inB; simp) (plain_str c9) (by unfold lensOk tText; simp) rfl rfl i64_zero
 ·rw [if_neg c9] at h; cases h
theorem bs_len (l : List UInt8) : (bs l).size = l.length := by show l.toArray.size = l.length; simp
theorem trimL_le (l : List UInt8) : (trimLeftB l 32).length <= l.length := by
 unfold trimLeftB
 exact (List.dropWhile_sublist _).length_le
theorem tail_le (s : ByteArray) (i : Nat) : (tailL s i).size <= s.size - i := by
 unfold tailL
 rw [bs_len]
 have h1 := trimL_le (s.data.toList.drop i)
 have h2 : s.data.toList.length = s.size := Array.length_toList
 rw [List.length_drop] at h1
 omega
theorem key_str' {s key rest : ByteArray} (h : keyB s = some (key, rest)) (hk : ¬ 400 < key.size) : strB key = true := by
 unfold keyB at h
 by_cases c1 : 0 < s.size /\ byteI s 0 = 34
 ·rw [if_pos c1] at h
  by_cases c2 : 0 <= (quotB s 0).2 /\ endsB s (quotB s 0).2.toNat = true
  ·rw [if_pos c2] at h
   cases h
   exact quot_str c2.1 (by omega)
  ·rw [if_neg c2] at h; cases h
 ·rw [if_neg c1] at h
  rcases hf : findE s s.size 0 with _ | i
  ·rw [hf] at h; cases h
  ·rw [hf] at h
   simp only at h
   by_cases c3 : plainB (bs (s.data.toList.take i)) = true
   ·rw [if_pos c3] at h
    cases h
    exact plain_str c3
   ·rw [if_neg c3] at h; cases h
theorem item_le {s rest : ByteArray} {k : Nat} (h : itemB s = some (rest, k)) : rest.size <= s.size := by
 unfold itemB at h
 by_cases c1 : s = bs [45]
 ·rw [if_pos c1] at h
  cases h
  exact Nat.zero_le _
 ·rw [if_neg c1] at h
  by_cases c2 : 2 <= s.size /\ byteI s 0 = 45 /\ byteI s 1 = 32
  ·rw [if_pos c2] at h
   cases h
   have := tail_le s 2
   omega
  ·rw [if_neg c2] at h; cases h
theorem item_more {s rest : ByteArray} {k : Nat} (h : itemB s = some (rest, k)) (hk : k ≠ 0) : rest.size + 2 <= s.size := by
 unfold itemB at h
 by_cases c1 : s = bs [45]
 ·rw [if_pos c1] at h
  cases h
  exact absurd rfl hk
 ·rw [if_neg c1] at h
  by_cases c2 : 2 <= s.size /\ byteI s 0 = 45 /\ byteI s 1 = 32
  ·rw [if_pos c2] at h
   cases h
   have := tail_le s 2
   omega
  ·rw [if_neg c2] at h; cases h
theorem readK_value (n d : Nat) (x : LineD) (r : List LineD) (m : Nat) : readK (n + 1) (.value d) (x :: r) m = (match beginF d m x.at' with
   | some f => .bad f
   | none =>
    if (itemB x.text).isSome then readK n (.list x.ind d []) (x :: r) (m + 1)
    else if (keyB x.text).isSome then readK n (.pairs x.ind d [] []) (x :: r) (m + 1)
    else match scalB x.text with
     | some t => .good t r (m + 1)
     | none => .bad (fltA 4 x.at')) := rfl
def below? (i : Nat) : List LineD -> Bool
 | [] => false
 | x :: _ => decide (i < x.ind)
theorem readK_below (n i d a : Nat) (L : List LineD) (m : Nat) : readK (n + 1) (.below i d a) L m = if below? i L = true then readK n (.value d) L m else (match beginF d m a with
   | some f => .bad f
   | none => .good tNull L (m + 1)) := by
 cases L <;> rfl
def itemJ (n i d : Nat) (x : LineD) (r : List LineD) (rest : ByteArray) (k m : Nat) : ResI := if k = 0 then readK n (.below i (d + 1) x.at') r m else readK n (.value (d + 1)) (⟨i + k, rest, x.at'⟩ :: r) m
theorem readK_list (n i d : Nat) (acc : List TreeD) (x : LineD) (r : List LineD) (m : Nat) : readK (n + 1) (.list i d acc) (x :: r) m = if x.ind ≠ i then .good (tList acc) (x :: r) m else (match itemB x.text with
   | none => .good (tList acc) (x :: r) m
   | some (rest, k) => match itemJ n i d x r rest k m with
    | .bad f => .bad f
    | .good t L' m' => readK n (.list i d (acc ++ [t])) L' m') := rfl
theorem readK_list_nil (n i d : Nat) (acc : List TreeD) (m : Nat) : readK (n + 1) (.list i d acc) [] m = .good (tList acc) [] m := rfl
def pairJ (n i d : Nat) (x : LineD) (r : List LineD) (rest : ByteArray) (m : Nat) : ResI := if rest.size = 0 then readK n (.below i (d + 1) x.at') r m else match beginF (d + 1) m x.at' with
      | some f => .bad f
      | none => match scalB rest with
       | none => .bad (fltA 4 x.at')
       | some t => .good t r (m + 1)
theorem readK_pairs (n i d : Nat) (ks : List ByteArray) (acc : List TreeD) (x : LineD) (r : List LineD) (m : Nat) : readK (n + 1) (.pairs i d ks acc) (x :: r) m = if x.ind ≠ i ∨ (itemB x.text).isSome then .good (tMap ks acc) (x :: r) m else (match keyB x.text with
   | none => .good (tMap ks acc) (x :: r) m
   | some (key, rest) =>
    if 400 < key.size then .bad (fltA 8 x.at')
    else if ks.contains key then .bad (fltA 5 x.at')
    else match pairJ n i d x r rest m with
     | .bad f => .bad f
     | .good t L' m' => readK n (.pairs i d (insL ks (posK ks key) key) (insL acc (posK ks key) t)) L' m') := rfl
theorem readK_pairs_nil (n i d : Nat) (ks : List ByteArray) (acc : List TreeD) (m : Nat) : readK (n + 1) (.pairs i d ks acc) [] m = .good (tMap ks acc) [] m := rfl
theorem begin_none {d m a : Nat} (h : beginF d m a = none) : d <= 8 /\ m < 300 := by
 unfold beginF at h
 by_cases c1 : 8 < d
 ·rw [if_pos c1] at h; cases h
 ·rw [if_neg c1] at h
  by_cases c2 : 300 <= m
  ·rw [if_pos c2] at h; cases h
  ·omega
theorem begin_code {d m a : Nat} {f : Flt} (h : beginF d m a = some f) : f.code ≠ 0 := by
 unfold beginF at h
 by_cases c1 : 8 < d
 ·rw [if_pos c1] at h
  cases h
  exact (show (6 : Int) ≠ 0 by decide)
 ·rw [if_neg c1] at h
  by_cases c2 : 300 <= m
  ·rw [if_pos c2] at h
   cases h
   exact (show (7 : Int) ≠ 0 by decide)
  ·rw [if_neg c2] at h; cases h
def JobIOk (j : JobI) (m : Nat) (t : TreeD) (m' : Nat) : Prop := match j with
 | .value d => ∀ N, N + d = 11 -> VOk N d t /\ m' = m + sizeT N t /\ m' <= 300
 | .below _ d _ => ∀ N, N + d = 11 -> VOk N d t /\ m' = m + sizeT N t /\ m' <= 300
 | .list _ d acc => ∀ N, N + d = 10 -> ∃ more, t = tList (acc ++ more) /\ (∀ x ∈ more, VOk N (d + 1) x) /\ m' = m + szL (sizeT N) more /\ m' <= 300
 | .pairs _ d ks acc => ∀ N, N + d = 10 -> ks.length = acc.length -> SortK ks -> (∀ k ∈ ks, strB k = true) -> (∀ x ∈ acc, VOk N (d + 1) x) -> ∃ ks' l', t = tMap ks' l' /\ ks'.length = l'.length /\ SortK ks' /\ (∀ k ∈ ks', strB k = true) /\ (∀ x ∈ l', VOk N (d + 1) x) /\
   m' + szL (sizeT N) acc = m + szL (sizeT N) l' /\ m' <= 300
theorem readK_ok : ∀ (n : Nat) (j : JobI) (L : List LineD) (m : Nat) (t : TreeD) (L' : List LineD) (m' : Nat), readK n j L m = .good t L' m' -> m <= 300 -> JobIOk j m t m'
 | 0, j, L, m, t, L', m', h, _ => by cases h
 | n + 1, .value d, [], m, t, L', m', h, hm => by cases h
 | n + 1, .value d, x :: r, m, t, L', m', h, hm => by
  rw [readK_value] at h
  rcases hb : beginF d m x.at' with _ | f
  ·rw [hb] at h
   simp only at h
   obtain ⟨hd, hm3⟩ := begin_none hb
   intro N hN
   obtain ⟨N, rfl⟩ : ∃ M, N = M + 1 := ⟨N - 1, by omega⟩
   by_cases c1 : (itemB x.text).isSome = true
   ·rw [if_pos c1] at h
    obtain ⟨more, g1, g2, g3, g4⟩ := readK_ok n _ _ _ _ _ _ h (by omega) N (by omega)
    rw [List.nil_append] at g1
    subst g1
    refine ⟨list_ok hd g2, ?_, g4⟩
    rw [sizeT_succ]
    show m' = m + (1 + szL (sizeT N) more)
    omega
   rw [if_neg c1] at h
   by_cases c2 : (keyB x.text).isSome = true
   ·rw [if_pos c2] at h
    obtain ⟨ks, l, g1, g2, g3, g4, g5, g6, g7⟩ := readK_ok n _ _ _ _ _ _ h (by omega) N (by omega) rfl List.Pairwise.nil (fun k hk => by cases hk) (fun k hk => by cases hk)
    subst g1
    simp only [szL] at g6
    refine ⟨map_ok hd g2 g3 g4 g5, ?_, g7⟩
    rw [sizeT_succ]
    show m' = m + (1 + szL (sizeT N) l)
    omega
   rw [if_neg c2] at h
   rcases hs : scalB x.text with _ | u
   ·rw [hs] at h; cases h
   ·rw [hs] at h
    cases h
    have h1 := scal_ok hs (N := N) hd
    exact ⟨h1.1, by rw [h1.2], by omega⟩
  ·rw [hb] at h; cases h
 | n + 1, .below i d a, L, m, t, L', m', h, hm => by
  rw [readK_below] at h
  by_cases c : below? i L = true
  ·rw [if_pos c] at h
   exact readK_ok n (.value d) L m t L' m' h hm
  ·rw [if_neg c] at h
   rcases hb : beginF d m a with _ | f
   ·rw [hb] at h
    obtain ⟨hd, hm3⟩ := begin_none hb
    cases h
    intro N hN
    obtain ⟨N, rfl⟩ : ∃ M, N = M + 1 := ⟨N - 1, by omega⟩
    obtain ⟨h1, h2⟩ := leaf_ok (N := N) (d := d) (t := tNull) hd (by unfold badH tNull inB; simp) strB_empty (by unfold lensOk tNull; simp) rfl rfl i64_zero
    exact ⟨h1, by rw [h2], by omega⟩
   ·rw [hb] at h; cases h
 | n + 1, .list i d acc, [], m, t, L', m', h, hm => by
  cases h
  intro N hN
  exact ⟨[], by rw [List.append_nil], fun x hx => (by cases hx), rfl, hm⟩
 | n + 1, .list i d acc, x :: r, m, t, L', m', h, hm => by
  rw [readK_list] at h
  have stop : ∀ {t L' m'}, ResI.good (tList acc) (x :: r) m = .good t L' m' -> JobIOk (.list i d acc) m t m' := fun e => by
   cases e
   intro N hN
   exact ⟨[], by rw [List.append_nil], fun x hx => (by cases hx), rfl, hm⟩
  by_cases c1 : x.ind ≠ i
  ·rw [if_pos c1] at h
   exact stop h
  rw [if_neg c1] at h
  rcases hi : itemB x.text with _ | ⟨rest, k⟩
  ·rw [hi] at h
   exact stop h
  rw [hi] at h
  simp only at h
  rcases hr : itemJ n i d x r rest k m with f | ⟨u, L1, m1⟩
  ·rw [hr] at h; cases h
  rw [hr] at h
  simp only at h
  have hv : ∀ N, N + (d + 1) = 11 -> VOk N (d + 1) u /\ m1 = m + sizeT N u /\ m1 <= 300 := by
   unfold itemJ at hr
   by_cases c2 : k = 0
   ·rw [if_pos c2] at hr
    exact readK_ok n (.below i (d + 1) x.at') _ _ _ _ _ hr hm
   ·rw [if_neg c2] at hr
    exact readK_ok n (.value (d + 1)) _ _ _ _ _ hr hm
  intro N hN
  obtain ⟨v1, v2, v3⟩ := hv N (by omega)
  obtain ⟨more, g1, g2, g3, g4⟩ := readK_ok n _ _ _ _ _ _ h v3 N hN
  refine ⟨u :: more, by rw [g1, List.append_assoc]; rfl, fun y hy => ?_, ?_, g4⟩
  ·rcases List.mem_cons.1 hy with rfl | hy
   ·exact v1
   ·exact g2 y hy
  ·simp only [szL]; omega
 | n + 1, .pairs i d ks acc, [], m, t, L', m', h, hm => by
  cases h
  intro N hN g1 g2 g3 g4
  exact ⟨ks, acc, rfl, g1, g2, g3, g4, rfl, hm⟩
 | n + 1, .pairs i d ks acc, x :: r, m, t, L', m', h, hm => by
  rw [readK_pairs] at h
  have stop : ∀ {t L' m'}, ResI.good (tMap ks acc) (x :: r) m = .good t L' m' -> JobIOk (.pairs i d ks acc) m t m' := fun e => by
   cases e
   intro N hN g1 g2 g3 g4
   exact ⟨ks, acc, rfl, g1, g2, g3, g4, rfl, hm⟩
  by_cases c1 : x.ind ≠ i ∨ (itemB x.text).isSome = true
  ·rw [if_pos c1] at h
   exact stop h
  rw [if_neg c1] at h
  rcases hi : keyB x.text with _ | ⟨key, rest⟩
  ·rw [hi] at h
   exact stop h
  rw [hi] at h
  simp only at h
  by_cases c2 : 400 < key.size
  ·rw [if_pos c2] at h; cases h
  rw [if_neg c2] at h
  by_cases c3 : ks.contains key = true
  ·rw [if_pos c3] at h; cases h
  rw [if_neg c3] at h
  rcases hr : pairJ n i d x r rest m with f | ⟨u, L1, m1⟩
  ·rw [hr] at h; cases h
  rw [hr] at h
  simp only at h
  have hst := key_str' hi c2
  have hv : ∀ N, N + (d + 1) = 11 -> VOk N (d + 1) u /\ m1 = m + sizeT N u /\ m1 <= 300 := by
   unfold pairJ at hr
   by_cases c4 : rest.size = 0
   ·rw [if_pos c4] at hr
    exact readK_ok n (.below i (d + 1) x.at') _ _ _ _ _ hr hm
   ·rw [if_neg c4] at hr
    rcases hb : beginF (d + 1) m x.at' with _ | f
    ·rw [hb] at hr
     obtain ⟨hd, hm3⟩ := begin_none hb
     simp only at hr
     rcases hs : scalB rest with _ | v
     ·rw [hs] at hr; cases hr
     ·rw [hs] at hr
      cases hr
      intro N hN
      obtain ⟨N, rfl⟩ : ∃ M, N = M + 1 := ⟨N - 1, by omega⟩
      have h1 := scal_ok hs (N := N) hd
      exact ⟨h1.1, by rw [h1.2], by omega⟩
    ·rw [hb] at hr; cases hr
  intro N hN hlen hso hks hacc
  obtain ⟨v1, v2, v3⟩ := hv N (by omega)
  have hle := posK_le ks key
  have hno : hasS ks key = false := by rw [<- contains_hasS]; simpa using c3
  have i1 : (insL ks (posK ks key) key).length = (insL acc (posK ks key) u).length := by rw [ins_len hle, ins_len (by omega), hlen]
  have i2 := ins_sorted hso hno
  have i3 : ∀ k ∈ insL ks (posK ks key) key, strB k = true := fun k hk => by
   unfold insL at hk
   rcases List.mem_append.1 hk with hk | hk
   ·exact hks k (List.mem_of_mem_take hk)
   ·rcases List.mem_cons.1 hk with rfl | hk
    ·exact hst
    ·exact hks k (List.mem_of_mem_drop hk)
  have i4 : ∀ y ∈ insL acc (posK ks key) u, VOk N (d + 1) y := fun y hy => by
   unfold insL at hy
   rcases List.mem_append.1 hy with hy | hy
   ·exact hacc y (List.mem_of_mem_take hy)
   ·rcases List.mem_cons.1 hy with rfl | hy
    ·exact v1
    ·exact hacc y (List.mem_of_mem_drop hy)
  have z2 := szL_ins (sizeT N) acc (posK ks key) u
  obtain ⟨ks', l', g1, g2, g3, g4, g5, g6, g7⟩ := readK_ok n _ _ _ _ _ _ h v3 N hN i1 i2 i3 i4
  exact ⟨ks', l', g1, g2, g3, g4, g5, by omega, g7⟩
def headItem (i : Nat) : List LineD -> Bool
 | [] => false
 | x :: _ => decide (x.ind = i) && (itemB x.text).isSome
def headKey (i : Nat) : List LineD -> Bool
 | [] => false
 | x :: _ => decide (x.ind = i) && !(itemB x.text).isSome && (keyB x.text).isSome
def Less (j : JobI) (L L' : List LineD) : Prop := costL L' <= costL L /\ match j with
 | .value _ => costL L' + 3 <= costL L
 | .below _ _ _ => True
 | .list i _ _ => headItem i L = true -> costL L' + 3 <= costL L
 | .pairs i _ _ _ => headKey i L = true -> costL L' + 3 <= costL L
theorem cost_cons (x : LineD) (l : List LineD) : costL (x :: l) = (x.text.size + 3) + costL l := rfl
theorem readK_less : ∀ (n : Nat) (j : JobI) (L : List LineD) (m : Nat) (t : TreeD) (L' : List LineD) (m' : Nat), readK n j L m = .good t L' m' -> Less j L L'
 | 0, j, L, m, t, L', m', h => by cases h
 | n + 1, .value d, [], m, t, L', m', h => by cases h
 | n + 1, .value d, x :: r, m, t, L', m', h => by
  rw [readK_value] at h
  rcases hb : beginF d m x.at' with _ | f
  ·rw [hb] at h
   simp only at h
   by_cases c1 : (itemB x.text).isSome = true
   ·rw [if_pos c1] at h
    have g := readK_less n _ _ _ _ _ _ h
    have g2 := g.2 (by show (decide (x.ind = x.ind) && (itemB x.text).isSome) = true; rw [c1]; simp)
    exact ⟨g.1, g2⟩
   rw [if_neg c1] at h
   by_cases c2 : (keyB x.text).isSome = true
   ·rw [if_pos c2] at h
    have g := readK_less n _ _ _ _ _ _ h
    have g2 := g.2 (by show (decide (x.ind = x.ind) && !(itemB x.text).isSome && (keyB x.text).isSome) = true; rw [c2]; simp at c1; simp [c1])
    exact ⟨g.1, g2⟩
   rw [if_neg c2] at h
   rcases hs : scalB x.text with _ | u
   ·rw [hs] at h; cases h
   ·rw [hs] at h
    cases h
    unfold Less
    rw [cost_cons]
    exact ⟨by omega, by simp only; omega⟩
  ·rw [hb] at h; cases h
 | n + 1, .below i d a, L, m, t, L', m', h => by
  rw [readK_below] at h
  by_cases c : below? i L = true
  ·rw [if_pos c] at h
   exact ⟨(readK_less n (.value d) L m t L' m' h).1, trivial⟩
  ·rw [if_neg c] at h
   rcases hb : beginF d m a with _ | f
   ·rw [hb] at h
    cases h
    exact ⟨Nat.le_refl _, trivial⟩
   ·rw [hb] at h; cases h
 | n + 1, .list i d acc, [], m, t, L', m', h => by
  cases h
  exact ⟨Nat.le_refl _, fun e => by cases e⟩
 | n + 1, .list i d acc, x :: r, m, t, L', m', h => by
  rw [readK_list] at h
  by_cases c1 : x.ind ≠ i
  ·rw [if_pos c1] at h
   cases h
   exact ⟨Nat.le_refl _, fun e => by simp [headItem, c1] at e⟩
  rw [if_neg c1] at h
  rcases hi : itemB x.text with _ | ⟨rest, k⟩
  ·rw [hi] at h
   cases h
   exact ⟨Nat.le_refl _, fun e => by simp [headItem, hi] at e⟩
  rw [hi] at h
  simp only at h
  rcases hr : itemJ n i d x r rest k m with f | ⟨u, L1, m1⟩
  ·rw [hr] at h; cases h
  rw [hr] at h
  simp only at h
  have hle := item_le hi
  have hv : costL L1 + 3 <= costL (x :: r) := by
   unfold itemJ at hr
   by_cases c2 : k = 0
   ·rw [if_pos c2] at hr
    have := (readK_less n (.below i (d + 1) x.at') _ _ _ _ _ hr).1
    rw [cost_cons]
    omega
   ·rw [if_neg c2] at hr
    have := (readK_less n (.value (d + 1)) _ _ _ _ _ hr).2
    simp only [cost_cons] at this
    rw [cost_cons]
    omega
  have g := (readK_less n _ _ _ _ _ _ h).1
  exact ⟨by omega, fun _ => by omega⟩
 | n + 1, .pairs i d ks acc, [], m, t, L', m', h => by
  cases h
  exact ⟨Nat.le_refl _, fun e => by cases e⟩
 | n + 1, .pairs i d ks acc, x :: r, m, t, L', m', h => by
  rw [readK_pairs] at h
  by_cases c1 : x.ind ≠ i ∨ (itemB x.text).isSome = true
  ·rw [if_pos c1] at h
   cases h
   exact ⟨Nat.le_refl _, fun e => by rcases c1 with c1 | c1 <;> simp [headKey, c1] at e⟩
  rw [if_neg c1] at h
  rcases hi : keyB x.text with _ | ⟨key, rest⟩
  ·rw [hi] at h
   cases h
   exact ⟨Nat.le_refl _, fun e => by simp [headKey, hi] at e⟩
  rw [hi] at h
  simp only at h
  by_cases c2 : 400 < key.size
  ·rw [if_pos c2] at h; cases h
  rw [if_neg c2] at h
  by_cases c3 : ks.contains key = true
  ·rw [if_pos c3] at h; cases h
  rw [if_neg c3] at h
  rcases hr : pairJ n i d x r rest m with f | ⟨u, L1, m1⟩
  ·rw [hr] at h; cases h
  rw [hr] at h
  simp only at h
  have hv : costL L1 + 3 <= costL (x :: r) := by
   unfold pairJ at hr
   rw [cost_cons]
   by_cases c4 : rest.size = 0
   ·rw [if_pos c4] at hr
    have := (readK_less n (.below i (d + 1) x.at') _ _ _ _ _ hr).1
    omega
   ·rw [if_neg c4] at hr
    rcases hb : beginF (d + 1) m x.at' with _ | f
    ·rw [hb] at hr
     simp only at hr
     rcases hs : scalB rest with _ | v
     ·rw [hs] at hr; cases hr
     ·rw [hs] at hr
      cases hr
      omega
    ·rw [hb] at hr; cases hr
  have g := (readK_less n _ _ _ _ _ _ h).1
  exact ⟨by omega, fun _ => by omega⟩
def needI (j : JobI) (L : List LineD) : Nat := match j with
 | .value _ => 3 * costL L + 3
 | .below _ _ _ => 3 * costL L + 4
 | .list _ _ _ => 3 * costL L + 2
 | .pairs _ _ _ _ => 3 * costL L + 2
def jobNe (j : JobI) (L : List LineD) : Prop := match j with
 | .value _ => L ≠ []
 | _ => True
theorem below_ne {i : Nat} {L : List LineD} (h : below? i L = true) : L ≠ [] := by
 intro e
 rw [e] at h
 cases h
theorem readK_code : ∀ (n : Nat) (j : JobI) (L : List LineD) (m : Nat) (f : Flt), readK n j L m = .bad f -> needI j L <= n -> jobNe j L -> f.code ≠ 0
 | 0, j, L, m, f, _, hn, _ => by cases j <;> (unfold needI at hn; simp only at hn; omega)
 | n + 1, .value d, [], m, f, h, _, hne => absurd rfl hne
 | n + 1, .value d, x :: r, m, f, h, hn, _ => by
  rw [readK_value] at h
  unfold needI at hn
  simp only at hn
  rcases hb : beginF d m x.at' with _ | f'
  ·rw [hb] at h
   simp only at h
   by_cases c1 : (itemB x.text).isSome = true
   ·rw [if_pos c1] at h
    exact readK_code n _ _ _ _ h (by unfold needI; simp only; omega) trivial
   rw [if_neg c1] at h
   by_cases c2 : (keyB x.text).isSome = true
   ·rw [if_pos c2] at h
    exact readK_code n _ _ _ _ h (by unfold needI; simp only; omega) trivial
   rw [if_neg c2] at h
   rcases hs : scalB x.text with _ | u
   ·rw [hs] at h
    cases h
    show (4 : Int) ≠ 0
    decide
   ·rw [hs] at h; cases h
  ·rw [hb] at h
   cases h
   exact begin_code hb
 | n + 1, .below i d a, L, m, f, h, hn, _ => by
  rw [readK_below] at h
  unfold needI at hn
  simp only at hn
  by_cases c : below? i L = true
  ·rw [if_pos c] at h
   exact readK_code n (.value d) L m f h (by unfold needI; simp only; omega) (below_ne c)
  ·rw [if_neg c] at h
   rcases hb : beginF d m a with _ | f'
   ·rw [hb] at h; cases h
   ·rw [hb] at h
    cases h
    exact begin_code hb
 | n + 1, .list i d acc, [], m, f, h, _, _ => by cases h
 | n + 1, .list i d acc, x :: r, m, f, h, hn, _ => by
  rw [readK_list] at h
  unfold needI at hn
  simp only at hn
  by_cases c1 : x.ind ≠ i
  ·rw [if_pos c1] at h; cases h
  rw [if_neg c1] at h
  rcases hi : itemB x.text with _ | ⟨rest, k⟩
  ·rw [hi] at h; cases h
  rw [hi] at h
  simp only at h
  rw [cost_cons] at hn
  rcases hr : itemJ n i d x r rest k m with f' | ⟨u, L1, m1⟩
  ·rw [hr] at h
   cases h
   unfold itemJ at hr
   by_cases c2 : k = 0
   ·rw [if_pos c2] at hr
    exact readK_code n _ _ _ _ hr (by unfold needI; simp only; omega) trivial
   ·rw [if_neg c2] at hr
    have := item_more hi c2
    exact readK_code n _ _ _ _ hr (by unfold needI; simp only [cost_cons]; omega) (fun e => by cases e)
  ·rw [hr] at h
   simp only at h
   have hle := item_le hi
   have hv : costL L1 + 3 <= (x.text.size + 3) + costL r := by
    unfold itemJ at hr
    by_cases c2 : k = 0
    ·rw [if_pos c2] at hr
     have := (readK_less n (.below i (d + 1) x.at') _ _ _ _ _ hr).1
     omega
    ·rw [if_neg c2] at hr
     have := (readK_less n (.value (d + 1)) _ _ _ _ _ hr).2
     simp only [cost_cons] at this
     omega
   exact readK_code n _ _ _ _ h (by unfold needI; simp only; omega) trivial
 | n + 1, .pairs i d ks acc, [], m, f, h, _, _ => by cases h
 | n + 1, .pairs i d ks acc, x :: r, m, f, h, hn, _ => by
  rw [readK_pairs] at h
  unfold needI at hn
  simp only at hn
  by_cases c1 : x.ind ≠ i ∨ (itemB x.text).isSome = true
  ·rw [if_pos c1] at h; cases h
  rw [if_neg c1] at h
  rcases hi : keyB x.text with _ | ⟨key, rest⟩
  ·rw [hi] at h; cases h
  rw [hi] at h
  simp only at h
  rw [cost_cons] at hn
  by_cases c2 : 400 < key.size
  ·rw [if_pos c2] at h
   cases h
   show (8 : Int) ≠ 0
   decide
  rw [if_neg c2] at h
  by_cases c3 : ks.contains key = true
  ·rw [if_pos c3] at h
   cases h
   show (5 : Int) ≠ 0
   decide
  rw [if_neg c3] at h
  rcases hr : pairJ n i d x r rest m with f' | ⟨u, L1, m1⟩
  ·rw [hr] at h
   cases h
   unfold pairJ at hr
   by_cases c4 : rest.size = 0
   ·rw [if_pos c4] at hr
    exact readK_code n _ _ _ _ hr (by unfold needI; simp only; omega) trivial
   ·rw [if_neg c4] at hr
    rcases hb : beginF (d + 1) m x.at' with _ | f'
    ·rw [hb] at hr
     simp only at hr
     rcases hs : scalB rest with _ | v
     ·rw [hs] at hr
      cases hr
      show (4 : Int) ≠ 0
      decide
     ·rw [hs] at hr; cases hr
    ·rw [hb] at hr
     cases hr
     exact begin_code hb
  ·rw [hr] at h
   simp only at h
   have hv : costL L1 <= costL r := by
    unfold pairJ at hr
    by_cases c4 : rest.size = 0
    ·rw [if_pos c4] at hr
     exact (readK_less n (.below i (d + 1) x.at') _ _ _ _ _ hr).1
    ·rw [if_neg c4] at hr
     rcases hb : beginF (d + 1) m x.at' with _ | f'
     ·rw [hb] at hr
      simp only at hr
      rcases hs : scalB rest with _ | v
      ·rw [hs] at hr; cases hr
      ·rw [hs] at hr
       cases hr
       exact Nat.le_refl _
     ·rw [hb] at hr; cases hr
   exact readK_code n _ _ _ _ h (by unfold needI; simp only; omega) trivial
theorem readIn_ok {s : ByteArray} (h : (readIn s).1.code = 0) : okT 10 (readIn s).2 = true /\ numT 10 (readIn s).2 := by
 unfold readIn at h ⊢
 by_cases c1 : (linesF s).2.code ≠ 0
 ·rw [if_pos c1] at h
  exact absurd h c1
 rw [if_neg c1] at h ⊢
 rcases hL : (linesF s).1 with _ | ⟨x, r⟩
 ·rw [hL] at h
  exact absurd (show (4 : Int) = 0 from h) (by decide)
 rw [hL] at h
 simp only at h ⊢
 by_cases c2 : x.ind ≠ 0
 ·rw [if_pos c2] at h
  exact absurd (show (4 : Int) = 0 from h) (by decide)
 rw [if_neg c2] at h ⊢
 rcases hq : readK (3 * costL (x :: r) + 3) (.value 1) (x :: r) 0 with f | ⟨t, L', m'⟩
 ·rw [hq] at h
  exact absurd h (readK_code _ _ _ _ _ hq (Nat.le_refl _) (fun e => by cases e))
 ·rw [hq] at h
  cases L' with
  | nil =>
   simp only
   obtain ⟨v1, v2, v3⟩ := readK_ok _ _ _ _ _ _ _ hq (by omega) 10 rfl
   have hdeep := v1.deep
   refine ⟨?_, v1.num⟩
   unfold okT
   rw [v1.shape, decide_eq_true (by omega), decide_eq_true (by omega)]
   rfl
  | cons y L'' => exact absurd (show (4 : Int) = 0 from h) (by decide)
def InAt (ty : TypeId) (b g N cap : Nat) (L : List LineD) (m : Nat) (f : Flt) (w : World) : Prop :=
 ∃ (p : Nat) (cur : Array Value), p + L.length = N /\ N <= cap /\ N <= 20001 /\ g ≠ b /\
  w.heap[b]? = some (.cells #[.slice (some ⟨g, 0, none⟩) N cap, .int .i64 p, .int .i64 m, .int .i64 f.code, .int .i64 f.at', .string f.path] ty (0, 0)) /\
  w.heap[g]? = some (.cells cur 59 (0, 0)) /\
  ∀ i x, L[i]? = some x -> cur[(p + i) * 3]? = some (.int .i64 (x.ind : Nat)) /\ cur[(p + i) * 3 + 1]? = some (.string x.text) /\ cur[(p + i) * 3 + 2]? = some (.int .i64 (x.at' : Nat))
def endOk (s : ByteArray) : Prop := 0 < s.size /\ byteI s (s.size - 1) ≠ 32
def LnOk (x : LineD) : Prop := x.ind + x.text.size <= 20000 /\ x.at' <= 20001 /\ endOk x.text
def InOk (L : List LineD) : Prop := ∀ x ∈ L, LnOk x
theorem InOk.tail {x : LineD} {r : List LineD} (h : InOk (x :: r)) : InOk r := fun y hy => h y (List.mem_cons_of_mem _ hy)
theorem InOk.head {x : LineD} {r : List LineD} (h : InOk (x :: r)) : LnOk x := h x List.mem_cons_self
theorem InOk.cons {x : LineD} {r : List LineD} (h : InOk r) (h1 : LnOk x) : InOk (x :: r) := fun y hy => by
 rcases List.mem_cons.1 hy with rfl | hy
 ·exact h1
 ·exact h y hy
theorem drop_all (a : UInt8) : ∀ (l : List UInt8), l.dropWhile (· == a) = [] -> ∀ c ∈ l, c = a
 | [], _, c, hc => by cases hc
 | x :: l, h, c, hc => by
  rw [List.dropWhile_cons] at h
  by_cases e : (x == a) = true
  ·rw [if_pos e] at h
   rcases List.mem_cons.1 hc with rfl | hc
   ·exact beq_iff_eq.1 e
   ·exact drop_all a l h c hc
  ·rw [if_neg e] at h; cases h
theorem tail_end {s : ByteArray} {i : Nat} (h : endOk s) (hi : i < s.size) : endOk (tailL s i) /\ (tailL s i).size <= s.size - i := by
 obtain ⟨h0, h1⟩ := h
 have hl := trimL_len (s.data.toList.drop i) 32
 rw [List.length_drop, list_size] at hl
 have hz : (tailL s i).size = (trimLeftB (s.data.toList.drop i) 32).length := size_mk _
 have hsuf : trimLeftB (s.data.toList.drop i) 32 = (s.data.toList.drop i).drop ((s.data.toList.drop i).length - (trimLeftB (s.data.toList.drop i) 32).length) := trim_drop _ _
 have hlast : s.data.toList[s.size - 1]? = some (s.get! (s.size - 1)) := byte_list (by omega)
 have hpos : 0 < (tailL s i).size := by
  rcases Nat.eq_zero_or_pos (tailL s i).size with e | e
  ·exfalso
   have hnil : trimLeftB (s.data.toList.drop i) 32 = [] := List.eq_nil_of_length_eq_zero (by omega)
   have hall : ∀ c ∈ s.data.toList.drop i, c = 32 := by
    intro c hc
    unfold trimLeftB at hnil
    exact drop_all _ _ hnil c hc
   have hm : s.get! (s.size - 1) ∈ s.data.toList.drop i := by
    refine List.mem_of_getElem? (i := s.size - 1 - i) ?_
    rw [List.getElem?_drop, show i + (s.size - 1 - i) = s.size - 1 by omega]
    exact hlast
   have := hall _ hm
   apply h1
   unfold byteI
   rw [this]
   rfl
  ·exact e
 refine ⟨⟨hpos, fun e => h1 ?_⟩, by omega⟩
 have hb : (tailL s i).data.toList[(tailL s i).size - 1]? = some ((tailL s i).get! ((tailL s i).size - 1)) := byte_list (by omega)
 have e2 : (tailL s i).data.toList = trimLeftB (s.data.toList.drop i) 32 := rfl
 rw [e2, hsuf, List.drop_drop, List.getElem?_drop, List.length_drop, list_size, <- hz] at hb
 rw [show i + (s.size - i - (tailL s i).size) + ((tailL s i).size - 1) = s.size - 1 by omega, hlast] at hb
 unfold byteI at e ⊢
 rw [<- Option.some.inj hb] at e
 exact e
theorem item_rest {s rest : ByteArray} {k : Nat} (h : itemB s = some (rest, k)) (he : endOk s) : (k = 0 /\ rest = ⟨#[]⟩) ∨ (2 <= k /\ k + rest.size = s.size /\ endOk rest) := by
 unfold itemB at h
 by_cases c1 : s = bs [45]
 ·rw [if_pos c1] at h
  cases h
  exact .inl ⟨rfl, rfl⟩
 ·rw [if_neg c1] at h
  by_cases c2 : 2 <= s.size /\ byteI s 0 = 45 /\ byteI s 1 = 32
  ·rw [if_pos c2] at h
   cases h
   have h3 : 2 < s.size := by
    rcases Nat.lt_or_ge 2 s.size with g | g
    ·exact g
    ·exfalso
     have e : s.size = 2 := by omega
     apply he.2
     rw [e]
     exact c2.2.2
   obtain ⟨g1, g2⟩ := tail_end he h3
   exact .inr ⟨by omega, by omega, g1⟩
  ·rw [if_neg c2] at h; cases h
theorem InAt.lt {ty : TypeId} {b g N cap : Nat} {L : List LineD} {m : Nat} {f : Flt} {w : World} (h : InAt ty b g N cap L m f w) : b < w.heap.size /\ g < w.heap.size := by
 obtain ⟨p, cur, -, -, -, -, h1, h2, -⟩ := h
 exact ⟨row_lt h1, row_lt h2⟩
theorem InAt.carry {ty : TypeId} {b g N cap : Nat} {L : List LineD} {m : Nat} {f : Flt} {w w' : World} (h : InAt ty b g N cap L m f w) (hb : w'.heap[b]? = w.heap[b]?) (hg : w'.heap[g]? = w.heap[g]?) : InAt ty b g N cap L m f w' := by
 obtain ⟨p, cur, h1, h2, h3, h4, h5, h6, h7⟩ := h
 exact ⟨p, cur, h1, h2, h3, h4, hb.trans h5, hg.trans h6, h7⟩
theorem InAt.below {ty : TypeId} {b g N cap : Nat} {L : List LineD} {m : Nat} {f : Flt} {w w' : World} (h : InAt ty b g N cap L m f w) (hb : Below w.heap.size w w') : InAt ty b g N cap L m f w' :=
 h.carry (hb.block b h.lt.1) (hb.block g h.lt.2)
theorem InAt.past {ty : TypeId} {b g N cap : Nat} {L : List LineD} {m : Nat} {f : Flt} {w w' : World} {S : Nat -> Prop} (h : InAt ty b g N cap L m f w) (hF : Aside S w w') (hb : ¬ S b) (hg : ¬ S g) : InAt ty b g N cap L m f w' :=
 h.carry (hF.block b h.lt.1 hb) (hF.block g h.lt.2 hg)
structure BoxIn (ty : TypeId) (b g N cap p : Nat) (L : List LineD) (m : Nat) (f : Flt) (w : World) : Prop where
 pos : p + L.length = N
 cap' : N <= cap
 small : N <= 20001
 ne : g ≠ b
 row : w.heap[b]? = some (.cells #[.slice (some ⟨g, 0, none⟩) N cap, .int .i64 p, .int .i64 m, .int .i64 f.code, .int .i64 f.at', .string f.path] ty (0, 0))
 lines : g < w.heap.size
 line : ∀ x r, L = x :: r -> w.cell? ⟨g, p * 3, none⟩ = some (.int .i64 (x.ind : Nat)) /\ w.cell? ⟨g, p * 3 + 1, none⟩ = some (.string x.text) /\ w.cell? ⟨g, p * 3 + 2, none⟩ = some (.int .i64 (x.at' : Nat)) /\ ∀ o, w.frozen? ⟨g, o, none⟩ = false
theorem InAt.open {ty : TypeId} {b g N cap : Nat} {L : List LineD} {m : Nat} {f : Flt} {w : World} (h : InAt ty b g N cap L m f w) : ∃ p, BoxIn ty b g N cap p L m f w := by
 obtain ⟨p, cur, h1, h2, h3, h4, h5, h6, h7⟩ := h
 refine ⟨p, h1, h2, h3, h4, h5, row_lt h6, fun x r hx => ?_⟩
 obtain ⟨e1, e2, e3⟩ := h7 0 x (by rw [hx]; rfl)
 rw [Nat.add_zero] at e1 e2 e3
 exact ⟨by rw [cell_of_row _ _ _ _ _ _ h6]; exact e1, by rw [cell_of_row _ _ _ _ _ _ h6]; exact e2, by rw [cell_of_row _ _ _ _ _ _ h6]; exact e3, fun o => frozen_row h6 o⟩
theorem InAt.turn {ty : TypeId} {b g N cap : Nat} {L L' : List LineD} {m m' : Nat} {f f' : Flt} {w w' : World} (h : InAt ty b g N cap L m f w) (hF : Aside (fun q => q = b) w w') (hL : L' = L ∨ ∃ x, L = x :: L')
  (hr : ∀ p p' : Nat, p + L.length = N -> p' + L'.length = N -> w.heap[b]? = some (.cells #[.slice (some ⟨g, 0, none⟩) N cap, .int .i64 p, .int .i64 m, .int .i64 f.code, .int .i64 f.at', .string f.path] ty (0, 0)) ->
   w'.heap[b]? = some (.cells #[.slice (some ⟨g, 0, none⟩) N cap, .int .i64 p', .int .i64 m', .int .i64 f'.code, .int .i64 f'.at', .string f'.path] ty (0, 0))) : InAt ty b g N cap L' m' f' w' := by
 obtain ⟨p, cur, h1, h2, h3, h4, h5, h6, h7⟩ := h
 rcases hL with rfl | ⟨x, rfl⟩
 ·exact ⟨p, cur, h1, h2, h3, h4, hr p p h1 h1 h5, (hF.block g (row_lt h6) h4).trans h6, h7⟩
 ·have e : (p + 1) + L'.length = N := by rw [List.length_cons] at h1; omega
  refine ⟨p + 1, cur, e, h2, h3, h4, hr p (p + 1) h1 e h5, (hF.block g (row_lt h6) h4).trans h6, fun i y hy => ?_⟩
  have := h7 (i + 1) y (by rw [List.getElem?_cons_succ]; exact hy)
  rw [show p + 1 + i = p + (i + 1) by omega]
  exact this
theorem InAt.tellI {ty : TypeId} {b g N cap p : Nat} {x : LineD} {r : List LineD} {m k : Nat} {f : Flt} {w : World} {z : Int} (h : InAt ty b g N cap (x :: r) m f w) (hp : p + (x :: r).length = N) (hz : z = (k : Nat)) :
  InAt ty b g N cap (⟨k, x.text, x.at'⟩ :: r) m f (w.setCell ⟨g, p * 3, none⟩ (.int .i64 z)) := by
 subst hz
 obtain ⟨p', cur, h1, h2, h3, h4, h5, h6, h7⟩ := h
 obtain rfl : p' = p := by omega
 have k1 := heap_setCell_same w g (p' * 3) _ _ (.int .i64 (k : Nat)) h6
 obtain ⟨e1, e2, e3⟩ := h7 0 x rfl
 rw [Nat.add_zero] at e1 e2 e3
 obtain ⟨l1, -⟩ := Array.getElem?_eq_some_iff.1 e1
 refine ⟨p', _, h1, h2, h3, h4, ?_, k1, fun i y hy => ?_⟩
 ·rw [Below.heap_setCell _ _ _ _ (fun e => h4 e.symm)]
  exact h5
 ·rcases i with _ | i
  ·rw [List.getElem?_cons_zero] at hy
   cases hy
   rw [show p' + 0 = p' from rfl]
   exact ⟨Array.getElem?_setIfInBounds_self_of_lt l1, by rw [Array.getElem?_setIfInBounds_ne (by omega)]; exact e2, by rw [Array.getElem?_setIfInBounds_ne (by omega)]; exact e3⟩
  ·have := h7 (i + 1) y (by rw [List.getElem?_cons_succ] at hy ⊢; exact hy)
   exact ⟨by rw [Array.getElem?_setIfInBounds_ne (by omega)]; exact this.1, by rw [Array.getElem?_setIfInBounds_ne (by omega)]; exact this.2.1, by rw [Array.getElem?_setIfInBounds_ne (by omega)]; exact this.2.2⟩
theorem InAt.tellT {ty : TypeId} {b g N cap p : Nat} {x : LineD} {r : List LineD} {m : Nat} {t : ByteArray} {f : Flt} {w : World} (h : InAt ty b g N cap (x :: r) m f w) (hp : p + (x :: r).length = N) :
  InAt ty b g N cap (⟨x.ind, t, x.at'⟩ :: r) m f (w.setCell ⟨g, p * 3 + 1, none⟩ (.string t)) := by
 obtain ⟨p', cur, h1, h2, h3, h4, h5, h6, h7⟩ := h
 obtain rfl : p' = p := by omega
 have k1 := heap_setCell_same w g (p' * 3 + 1) _ _ (.string t) h6
 obtain ⟨e1, e2, e3⟩ := h7 0 x rfl
 rw [Nat.add_zero] at e1 e2 e3
 obtain ⟨l2, -⟩ := Array.getElem?_eq_some_iff.1 e2
 refine ⟨p', _, h1, h2, h3, h4, ?_, k1, fun i y hy => ?_⟩
 ·rw [Below.heap_setCell _ _ _ _ (fun e => h4 e.symm)]
  exact h5
 ·rcases i with _ | i
  ·rw [List.getElem?_cons_zero] at hy
   cases hy
   rw [show p' + 0 = p' from rfl]
   exact ⟨by rw [Array.getElem?_setIfInBounds_ne (by omega)]; exact e1, Array.getElem?_setIfInBounds_self_of_lt l2, by rw [Array.getElem?_setIfInBounds_ne (by omega)]; exact e3⟩
  ·have := h7 (i + 1) y (by rw [List.getElem?_cons_succ] at hy ⊢; exact hy)
   exact ⟨by rw [Array.getElem?_setIfInBounds_ne (by omega)]; exact this.1, by rw [Array.getElem?_setIfInBounds_ne (by omega)]; exact this.2.1, by rw [Array.getElem?_setIfInBounds_ne (by omega)]; exact this.2.2⟩
def failF (f : Flt) (code : Int) (a : Nat) : Flt := if f.code = 0 then fltA code a else f
def hereB (f : Flt) (L : List LineD) (i : Nat) : Bool := decide (f.code = 0) && (match L with | [] => false | x :: _ => decide (x.ind = i))
def beginX (d m a : Nat) : Flt := (beginF d m a).getD flt0
end Go.Proofs.YtohcpifekcehjaaGreatDoor
