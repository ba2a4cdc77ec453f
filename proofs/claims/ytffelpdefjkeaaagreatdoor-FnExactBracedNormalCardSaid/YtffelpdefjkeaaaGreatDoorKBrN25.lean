/- Written by wip/tools/pack.py: the texts that FnExactBracedNormal needs, without what it does not need. No conditions. -/
import Derived.Test.YtffelpdefjkeaaaGreatDoorKBrN24
import Derived.Deep.CutRange
import Derived.Deep.CutBlock
import Derived.Test.YtffelpdefjkeaaaGreatDoorKBrN23
import Derived.Test.YtffelpdefjkeaaaGreatDoorKBrN21
import Derived.Test.YtffelpdefjkeaaaGreatDoorKBrN16
namespace Go.Proofs.YtffelpdefjkeaaaGreatDoor
open Go.RowKit Go.Lib
def T_sayS (n : Nat) : Prop := ∀ (d : TreeD) (cs : List Value) (w : World) (lo base nn c : Nat) (A : Option Addr) (M : List UInt8), C_Tree n lo base w d cs → shapeT n d = true → base ≤ w.heap.size → nn + 5000 * sizeT n d ≤ 1073741824 → BufN base w M nn (.slice A nn c) →
    Calls Tryz.prog 73 #[.agg cs.toArray, .slice A nn c] w fun e w' => ∃ (A' : Option Addr) (c' : Nat), e = .returned (.slice A' (nn + (sayL n d).length) c') ∧ BufN base w' (M ++ sayL n d) (nn + (sayL n d).length) (.slice A' (nn + (sayL n d).length) c') ∧ Grb w (.slice A nn c) w' (.slice A' (nn + (sayL n d).length) c')
set_option maxHeartbeats 16000000 in
set_option maxRecDepth 20000 in
theorem of_sayS (n : Nat) (ih : T_sayS n) : T_sayS (n + 1) := by
  intro d cs w lo base nn c A M h hsh hbw hsz hbuf
  have hlen := say_len (n + 1) d hsh (num_of h)
  have hS := sayL_succ n d
  have HSh := Lib.hid hsh
  have HNum := Lib.hid (num_of h)
  obtain ⟨v4, v5, rfl, a0, a2, a3, a4, a5⟩ := C_Tree.out h
  obtain ⟨A4, c4, rfl, hlk, hck, hK⟩ := a4
  obtain ⟨A5, c5, rfl, hlc, hcc, hA⟩ := a5
  have hsk : ∀ k t, d.kids[k]? = some t → szL (sizeT n) (d.kids.take k) + sizeT n t + 1 ≤ sizeT (n + 1) d := fun k t ht => size_kid ht
  have HSk := Lib.hid hsk
  have hbd : badH d = false := (shape_parts hsh).1
  have hls : lensOk d = true := (shape_parts hsh).2.2.1
  clear h hsk hsh
  obtain ⟨S, hSz⟩ : ∃ S, S = sizeT (n + 1) d := ⟨_, rfl⟩
  rw [← hSz] at hlen hsz HSk
  obtain ⟨r, hr⟩ : ∃ r, r = sayL (n + 1) d := ⟨_, rfl⟩
  rw [← hr] at hlen hS ⊢
  have HS := Lib.hid hS
  have HSz := Lib.hid (show S = 1 + szL (sizeT n) d.kids from hSz)
  clear hr hS hSz
  obtain ⟨dk, df, dn, dt, dks, dkd⟩ := d
  simp only at a0 a2 a3 hlk hK hlc hA HS HSk HSz hbd hls ⊢
  unfold badH at hbd
  unfold lensOk at hls
  simp only [Bool.or_eq_false_iff, Bool.not_eq_false', Bool.and_eq_false_iff] at hbd
  have hin : inB dk 1 6 = true := hbd.1.1.1.1.1
  have hk6 : 1 ≤ dk ∧ dk ≤ 6 := by unfold inB at hin; exact of_decide_eq_true hin
  obtain ⟨W0, hW0⟩ : ∃ W, W = w.alloc (.cells #[.int .i64 dk, .bool df, .int .i64 dn, .string dt, .slice A4 dks.length c4, .slice A5 dkd.length c5] 27) := ⟨_, rfl⟩
  have hB0 : Below w.heap.size w W0 := by rw [hW0]; exact bel
  have HR0 := Lib.hid (show W0.heap[w.heap.size]? = some (.cells #[.int .i64 dk, .bool df, .int .i64 dn, .string dt, .slice A4 dks.length c4, .slice A5 dkd.length c5] 27 (0, 0)) by rw [hW0]; exact heap_at rfl)
  have HW0 := Lib.hid hW0
  have hbuf0 := hbuf.below hB0
  have hbW0 : base ≤ W0.heap.size := Nat.le_trans hbw hB0.size
  have hG0 := Lib.hid (Grb.of (.slice A nn c) hB0)
  have HBf0 := Lib.hid hbuf0
  have Hbd := Lib.hid hbd
  clear hW0 hin hbd
  obtain ⟨x0, x1, x2, x3, x4, x5, xf⟩ := row6 HR0.out
  have l0 := row_lt HR0.out
  by_cases k1 : dk = 1
  · subst k1
    have HX := Lib.hid (show r = litN from HS.out)
    obtain ⟨A6, c6, w5, hr5, h5, g5⟩ := bufN_str W0 base nn c A M ⟨#[110, 117, 108, 108]⟩ hbuf0 (by show nn + 4 ≤ _; omega) hbW0
    have H5 := Lib.hid (And.intro h5 (hG0.out.trans g5))
    clear h5 g5 hK hA
    go_enter Tryz.func73, Tryz.ntmps73
    go_upto_region 1 with fail
    rw [← HW0.out]
    go_wp2_with (at_builtin; refine wpList_append_to rfl (.tmp 11) (.const (.string ⟨#[110, 117, 108, 108]⟩)) 37 9 rfl _ _ _ w5 rfl rfl hr5 ?_)
    go_ret
    rw [HX.out]
    exact ⟨A6, c6, rfl, H5.out.1, H5.out.2⟩
  by_cases k2 : dk = 2
  · subst k2
    have HX := Lib.hid (show r = boolL df from HS.out)
    clear hK hA
    rcases df with _ | _
    · obtain ⟨A6, c6, w5, hr5, h5, g5⟩ := bufN_str W0 base nn c A M ⟨#[102, 97, 108, 115, 101]⟩ hbuf0 (by show nn + 5 ≤ _; omega) hbW0
      have H5 := Lib.hid (And.intro h5 (hG0.out.trans g5))
      clear h5 g5
      go_enter Tryz.func73, Tryz.ntmps73
      go_upto_region 1 with fail
      rw [← HW0.out]
      go_wp2_with (at_builtin; refine wpList_append_to rfl (.tmp 19) (.const (.string ⟨#[102, 97, 108, 115, 101]⟩)) 37 9 rfl _ _ _ w5 rfl rfl hr5 ?_)
      go_ret
      rw [HX.out]
      exact ⟨A6, c6, rfl, H5.out.1, H5.out.2⟩
    · obtain ⟨A6, c6, w5, hr5, h5, g5⟩ := bufN_str W0 base nn c A M ⟨#[116, 114, 117, 101]⟩ hbuf0 (by show nn + 4 ≤ _; omega) hbW0
      have H5 := Lib.hid (And.intro h5 (hG0.out.trans g5))
      clear h5 g5
      go_enter Tryz.func73, Tryz.ntmps73
      go_upto_region 1 with fail
      rw [← HW0.out]
      go_wp2_with (at_builtin; refine wpList_append_to rfl (.tmp 17) (.const (.string ⟨#[116, 114, 117, 101]⟩)) 37 9 rfl _ _ _ w5 rfl rfl hr5 ?_)
      go_ret
      rw [HX.out]
      exact ⟨A6, c6, rfl, H5.out.1, H5.out.2⟩
  by_cases k3 : dk = 3
  · subst k3
    have HX := Lib.hid (show r = (decS dn).data.toList from HS.out)
    have hds := decS_size dn a2
    clear hK hA
    go_enter Tryz.func73, Tryz.ntmps73
    go_upto_region 1 with fail
    rw [← HW0.out]
    go_wp2_with fail
    refine (c_spec_Decimal dn W0 a2).mono ?_
    rintro e w4 ⟨rfl, hb4⟩
    obtain ⟨A6, c6, w5, hr5, h5, g5⟩ := bufN_str w4 base nn c A M (decS dn) (HBf0.out.below hb4) (by omega) (Nat.le_trans hbW0 hb4.size)
    have H5 := Lib.hid (And.intro h5 ((hG0.out.trans (Grb.of _ hb4)).trans g5))
    clear h5 g5 hb4
    go_wp2_with (at_builtin; refine wpList_append_to rfl (.tmp 23) (.tmp 26) 37 9 rfl _ _ _ w5 rfl rfl hr5 ?_)
    go_ret
    rw [HX.out, show (decS dn).data.toList.length = (decS dn).size from Array.length_toList]
    exact ⟨A6, c6, rfl, H5.out.1, H5.out.2⟩
  by_cases k4 : dk = 4
  · subst k4
    have HX := Lib.hid (show r = (quoteB dt).data.toList from HS.out)
    have hds := quote_len dt
    have hqe : (quoteB dt).data.toList.length = (quoteB dt).size := Array.length_toList
    have hst : dt.size ≤ 400 := by
      have h2 := (shape_parts HSh.out).2.1
      unfold strB at h2
      simp only [Bool.and_eq_true, decide_eq_true_eq] at h2
      exact h2.1
    clear hK hA
    go_enter Tryz.func73, Tryz.ntmps73
    go_upto_region 1 with fail
    rw [← HW0.out]
    go_wp2_with fail
    refine (c_spec_Quoted dt W0 (by omega)).mono ?_
    rintro e w4 ⟨rfl, hb4⟩
    obtain ⟨A6, c6, w5, hr5, h5, g5⟩ := bufN_str w4 base nn c A M (quoteB dt) (HBf0.out.below hb4) (by omega) (Nat.le_trans hbW0 hb4.size)
    have H5 := Lib.hid (And.intro h5 ((hG0.out.trans (Grb.of _ hb4)).trans g5))
    clear h5 g5 hb4 hqe
    go_wp2_with (at_builtin; refine wpList_append_to rfl (.tmp 30) (.tmp 33) 37 9 rfl _ _ _ w5 rfl rfl hr5 ?_)
    go_ret
    rw [HX.out, show (quoteB dt).data.toList.length = (quoteB dt).size from Array.length_toList]
    exact ⟨A6, c6, rfl, H5.out.1, H5.out.2⟩
  have e1 : (dk == 1) = false := beq_eq_false_iff_ne.2 k1
  have e2 : (dk == 2) = false := beq_eq_false_iff_ne.2 k2
  have e3 : (dk == 3) = false := beq_eq_false_iff_ne.2 k3
  have e4 : (dk == 4) = false := beq_eq_false_iff_ne.2 k4
  by_cases k5 : dk = 5
  · subst k5
    have HX := Lib.hid (show r = [91] ++ itemsT (fun _ => []) (sayL n) dkd dkd.length ++ [93] from HS.out)
    obtain ⟨A6, c6, w5, hr5, h5, g5⟩ := bufN_lit W0 base nn c 1 A M [91] [.int .u8 91] hbuf0 rfl rfl (by omega) (by decide) hbW0
    have H5 := Lib.hid (And.intro h5 g5)
    have hrow5 := (g5.keep l0 (fun e => by have := (hbuf.lt e).2; omega)).trans HR0.out
    have HR5 := Lib.hid hrow5
    have hs5 := g5.grown.size
    clear h5 g5 hrow5 k1 k2 k3 k4
    go_enter Tryz.func73, Tryz.ntmps73
    go_upto_region 1 with fail
    rw [← HW0.out]
    go_upto_region 14 with (at_builtin; refine wpList_append_of rfl (.tmp 37) (.tmp 38) 37 rfl _ _ _ w5 rfl rfl hr5 ?_)
    clear x0 x1 x2 x3 x4 x5 xf
    obtain ⟨x0, x1, x2, x3, x4, x5, xf⟩ := row6 HR5.out
    have l5 := row_lt HR5.out
    go_wp2_with fail
    go_loopw [1, 5] (fun s0 v wr => ∃ (k N : Nat) (A' : Option Addr) (c' : Nat), k ≤ dkd.length ∧ v = .int .i64 k ∧ s0 = .slice A' N c' ∧ BufN base wr (M ++ ([91] ++ itemsT (fun _ => []) (sayL n) dkd k)) N (.slice A' N c') ∧ Grb W0 (.slice A nn c) wr (.slice A' N c') ∧ wr.heap[w.heap.size]? = some (.cells #[.int .i64 5, .bool df, .int .i64 dn, .string dt, .slice A4 dks.length c4, .slice A5 dkd.length c5] 27 (0, 0))) (fun _ v _ => dkd.length - (Lib.intOf v).toNat)
    case atStart => exact ⟨0, nn + 1, A6, c6, Nat.zero_le _, rfl, rfl, H5.out.1, H5.out.2, HR5.out⟩
    case round =>
      clear x0 x1 x2 x3 x4 x5 xf l5 hs5
      obtain ⟨k, N, A', c', hk, rfl, rfl, hbf, hgr, hT⟩ := hrel
      have HT := Lib.hid hT
      have HBf := Lib.hid hbf
      have HGr := Lib.hid hgr
      have hbr : Below base w wr := (hG0.out.trans hgr).below hbuf.2 hbw
      have hitl := items_len (pre := (fun _ => [])) (f := sayL n) (g := sizeT n) (l := dkd) (fun _ => Nat.zero_le _) (fun t ht => by
        obtain ⟨i, hi⟩ := List.getElem?_of_mem ht
        exact say_len n t (shape_kid HSh.out hi) (HNum.out.2 t ht)) k hk
      have hNl : N = nn + (1 + (itemsT (fun _ => []) (sayL n) dkd k).length) := by
        rw [hbf.1, List.length_append, List.length_append, ← hbuf.1]; rfl
      have hbwr : base ≤ wr.heap.size := Nat.le_trans hbW0 hgr.grown.size
      have HNl := Lib.hid hNl
      have hNb : N ≤ nn + 1 + 5000 * szL (sizeT n) (dkd.take k) := by omega
      have hgs := hgr.grown.size
      clear hT hbf hgr hNl hitl
      obtain ⟨x0, x1, x2, x3, x4, x5, xf⟩ := row6 HT.out
      have l1 := row_lt HT.out
      by_cases hlt : k < dkd.length
      · obtain ⟨p, o, rfl, -, hbl, hcell⟩ := hA (by omega)
        obtain ⟨t, ht⟩ := exists_at hlt
        obtain ⟨es, -, hcs, hC⟩ := hcell k t ht
        obtain ⟨eA4, ec4, eA5, ec5, rfl, ea0, ea2, ea3⟩ := hC.flat
        have hk0 : (0 : Int) ≤ k := by omega
        have hk1 : (k : Int) < dkd.length := by omega
        have hsk := HSk.out k t ht
        have HC := Lib.hid hC
        have HIt := Lib.hid (items_next (pre := (fun _ => [])) (f := sayL n) ht)
        have HSt := Lib.hid (shape_kid HSh.out ht)
        have hsayl := say_len n t (shape_kid HSh.out ht) (HNum.out.2 t (List.mem_of_getElem? ht))
        have hneA : ∀ q, (Value.slice A' N c').ownBlock = some q → q ≠ w.heap.size ∧ q < wr.heap.size := fun q hq => by
          refine ⟨?_, (HBf.out.lt hq).2⟩
          rcases HGr.out.at' q hq with h1 | h1
          · have := (hbuf.lt h1).2
            omega
          · have := row_lt HR0.out
            omega
        have HneA := Lib.hid hneA
        have hszk : N + 1 + 2404 + 5000 * sizeT n t ≤ 1073741824 := by omega
        have HKx := Lib.hid (trivial)
        clear hcell hA hC ht hneA hK
        go_upto_if 48 with fail
        go_cut [1] from 47 to 51 (fun s0 wx => ∃ (A1 : Option Addr) (c1 N1 : Nat), s0 = .slice A1 N1 c1 ∧ N1 ≤ N + 1 ∧ BufN base wx (M ++ ([91] ++ itemsT (fun _ => []) (sayL n) dkd k) ++ (if k = 0 then [] else [44])) N1 (.slice A1 N1 c1) ∧ Grb wr (.slice A' N c') wx (.slice A1 N1 c1))
        case first =>
          clear hcs
          by_cases hk00 : k = 0
          · have HP := Lib.hid (show (if k = 0 then ([] : List UInt8) else [44]) = [] from if_pos hk00)
            have hp0 : ¬ 0 < k := by omega
            clear hk00
            go_wp2_with fail
            go_meet
            exact ⟨A', c', N, rfl, by omega, by rw [HP.out, List.append_nil]; exact HBf.out, Grb.of _ (Below.refl _ _)⟩
          · have HP := Lib.hid (show (if k = 0 then ([] : List UInt8) else [44]) = [44] from if_neg hk00)
            have hp0 : 0 < k := by omega
            clear hk00
            obtain ⟨A7, c7, w7, hr7, h7, g7⟩ := bufN_lit wr base N c' 1 A' _ [44] [.int .u8 44] HBf.out rfl rfl (by omega) (by decide) hbwr
            have H7 := Lib.hid (And.intro h7 g7)
            clear h7 g7
            go_wp2_with (at_builtin; refine wpList_append_of rfl (.tmp 49) (.tmp 50) 37 rfl _ _ _ w7 rfl rfl hr7 ?_)
            go_meet
            exact ⟨A7, c7, N + 1, rfl, Nat.le_refl _, by rw [HP.out]; exact H7.out.1, H7.out.2⟩
        case rest =>
          obtain ⟨A1, c1, N1, rfl, hN1, hb1, hg1⟩ := hcut
          have HT1 := Lib.hid ((hg1.keep l1 (fun e => (HneA.out _ e).1 rfl)).trans HT.out)
          have HB1 := Lib.hid hb1
          have HG1 := Lib.hid hg1
          have hs1 := hg1.grown.size
          have HA1 := Lib.hid (show ∀ q, (Value.slice A1 N1 c1).ownBlock = some q → q ≠ w.heap.size from fun q hq => by
            rcases hg1.at' q hq with h1 | h1
            · exact (HneA.out q h1).1
            · omega)
          clear hb1 hg1 x0 x1 x2 x3 x4 x5 xf
          obtain ⟨x0, x1, x2, x3, x4, x5, xf⟩ := row6 HT1.out
          have lx := row_lt HT1.out
          have hbq := ((hG0.out.trans HGr.out).trans HG1.out).below hbuf.2 hbw
          have hc0 := (hbq.cell (p := ⟨p, o + k * 6 + 0, none⟩) (by simp; omega)).trans (hcs 0 (by omega))
          simp at hc0
          have hc1 := (hbq.cell (p := ⟨p, o + k * 6 + 1, none⟩) (by simp; omega)).trans (hcs 1 (by omega))
          simp at hc1
          have hc2 := (hbq.cell (p := ⟨p, o + k * 6 + 2, none⟩) (by simp; omega)).trans (hcs 2 (by omega))
          simp at hc2
          have hc3 := (hbq.cell (p := ⟨p, o + k * 6 + 3, none⟩) (by simp; omega)).trans (hcs 3 (by omega))
          simp at hc3
          have hc4 := (hbq.cell (p := ⟨p, o + k * 6 + 4, none⟩) (by simp; omega)).trans (hcs 4 (by omega))
          simp at hc4
          have hc5 := (hbq.cell (p := ⟨p, o + k * 6 + 5, none⟩) (by simp; omega)).trans (hcs 5 (by omega))
          simp at hc5
          clear hcs
          have hpw : p < wc.heap.size := by omega
          clear hbq
          go_wp2_with fail
          refine (ih t _ wc lo base N1 c1 A1 _ (HC.out.old (((hG0.out.trans HGr.out).trans (HG1.out)).below hbuf.2 hbw)) HSt.out (by omega) (by omega) HB1.out).mono ?_
          rintro e w9 ⟨A9, c9, rfl, h9, g9⟩
          have HT9 := Lib.hid ((g9.keep lx (fun e => (HA1.out _ e) rfl)).trans HT1.out)
          have H9 := Lib.hid h9
          have HG9 := Lib.hid ((HGr.out.trans (HG1.out)).trans g9)
          clear h9 g9
          go_wp2_with fail
          go_roundw
          case rel => exact ⟨k + 1, N1 + (sayL n t).length, A9, c9, by omega, by go_num, rfl, by rw [HIt.out]; simpa only [List.append_assoc, List.nil_append] using H9.out, HG9.out, HT9.out⟩
          case measure => simp [Lib.intOf]; omega
      · obtain rfl : k = dkd.length := by omega
        have hke : decide (dkd.length < dkd.length) = false := decide_eq_false (Nat.lt_irrefl _)
        have hNz : N ≤ 1073741824 := by
          have := hNb
          rw [List.take_of_length_le (Nat.le_refl _)] at this
          have h2 : S = 1 + szL (sizeT n) dkd := HSz.out
          omega
        obtain ⟨A7, c7, w7, hr7, h7, g7⟩ := bufN_lit wr base N c' 1 A' _ [93] [.int .u8 93] HBf.out rfl rfl (by omega) (by decide) hbwr
        have H7 := Lib.hid (And.intro h7 (hG0.out.trans (HGr.out.trans g7)))
        have HN7 := Lib.hid (show N + 1 = nn + r.length by rw [HX.out, HNl.out]; simp only [List.length_append, List.length_cons, List.length_nil]; omega)
        clear h7 g7 hA hK
        go_wp2_with (at_builtin; refine wpList_append_of rfl (.tmp 59) (.tmp 60) 37 rfl _ _ _ w7 rfl rfl hr7 ?_)
        go_ret
        rw [← HN7.out, HX.out]
        exact ⟨A7, c7, rfl, by rw [List.append_assoc] at H7; rw [← HX.out] at *; exact H7.out.1, H7.out.2⟩
  · have k6 : dk = 6 := by omega
    subst k6
    have HX := Lib.hid (show r = [123] ++ itemsT (preM dks) (sayL n) dkd dkd.length ++ [125] from HS.out)
    have HLL := Lib.hid (show dks.length = dkd.length by simpa using hls)
    clear hls
    obtain ⟨A6, c6, w5, hr5, h5, g5⟩ := bufN_lit W0 base nn c 1 A M [123] [.int .u8 123] hbuf0 rfl rfl (by omega) (by decide) hbW0
    have H5 := Lib.hid (And.intro h5 g5)
    have hrow5 := (g5.keep l0 (fun e => by have := (hbuf.lt e).2; omega)).trans HR0.out
    have HR5 := Lib.hid hrow5
    have hs5 := g5.grown.size
    clear h5 g5 hrow5 k1 k2 k3 k4
    go_enter Tryz.func73, Tryz.ntmps73
    go_upto_region 1 with fail
    rw [← HW0.out]
    go_upto_region 22 with (at_builtin; refine wpList_append_of rfl (.tmp 62) (.tmp 63) 37 rfl _ _ _ w5 rfl rfl hr5 ?_)
    clear x0 x1 x2 x3 x4 x5 xf
    obtain ⟨x0, x1, x2, x3, x4, x5, xf⟩ := row6 HR5.out
    have l5 := row_lt HR5.out
    go_wp2_with fail
    go_loopw [1, 6] (fun s0 v wr => ∃ (k N : Nat) (A' : Option Addr) (c' : Nat), k ≤ dkd.length ∧ v = .int .i64 k ∧ s0 = .slice A' N c' ∧ BufN base wr (M ++ ([123] ++ itemsT (preM dks) (sayL n) dkd k)) N (.slice A' N c') ∧ Grb W0 (.slice A nn c) wr (.slice A' N c') ∧ wr.heap[w.heap.size]? = some (.cells #[.int .i64 6, .bool df, .int .i64 dn, .string dt, .slice A4 dks.length c4, .slice A5 dkd.length c5] 27 (0, 0))) (fun _ v _ => dkd.length - (Lib.intOf v).toNat)
    case atStart => exact ⟨0, nn + 1, A6, c6, Nat.zero_le _, rfl, rfl, H5.out.1, H5.out.2, HR5.out⟩
    case round =>
      clear x0 x1 x2 x3 x4 x5 xf l5 hs5
      obtain ⟨k, N, A', c', hk, rfl, rfl, hbf, hgr, hT⟩ := hrel
      have HT := Lib.hid hT
      have HBf := Lib.hid hbf
      have HGr := Lib.hid hgr
      have hbr : Below base w wr := (hG0.out.trans hgr).below hbuf.2 hbw
      have hitl := items_len (pre := (preM dks)) (f := sayL n) (g := sizeT n) (l := dkd) (pre_len HSh.out) (fun t ht => by
        obtain ⟨i, hi⟩ := List.getElem?_of_mem ht
        exact say_len n t (shape_kid HSh.out hi) (HNum.out.2 t ht)) k hk
      have hNl : N = nn + (1 + (itemsT (preM dks) (sayL n) dkd k).length) := by
        rw [hbf.1, List.length_append, List.length_append, ← hbuf.1]; rfl
      have hbwr : base ≤ wr.heap.size := Nat.le_trans hbW0 hgr.grown.size
      have HNl := Lib.hid hNl
      have hNb : N ≤ nn + 1 + 5000 * szL (sizeT n) (dkd.take k) := by omega
      have hgs := hgr.grown.size
      clear hT hbf hgr hNl hitl
      obtain ⟨x0, x1, x2, x3, x4, x5, xf⟩ := row6 HT.out
      have l1 := row_lt HT.out
      by_cases hlt : k < dkd.length
      · obtain ⟨p, o, rfl, -, hbl, hcell⟩ := hA (by omega)
        obtain ⟨t, ht⟩ := exists_at hlt
        obtain ⟨es, -, hcs, hC⟩ := hcell k t ht
        obtain ⟨eA4, ec4, eA5, ec5, rfl, ea0, ea2, ea3⟩ := hC.flat
        have hk0 : (0 : Int) ≤ k := by omega
        have hk1 : (k : Int) < dkd.length := by omega
        have hsk := HSk.out k t ht
        have HC := Lib.hid hC
        have HIt := Lib.hid (items_next (pre := (preM dks)) (f := sayL n) ht)
        have HSt := Lib.hid (shape_kid HSh.out ht)
        have hsayl := say_len n t (shape_kid HSh.out ht) (HNum.out.2 t (List.mem_of_getElem? ht))
        have hneA : ∀ q, (Value.slice A' N c').ownBlock = some q → q ≠ w.heap.size ∧ q < wr.heap.size := fun q hq => by
          refine ⟨?_, (HBf.out.lt hq).2⟩
          rcases HGr.out.at' q hq with h1 | h1
          · have := (hbuf.lt h1).2
            omega
          · have := row_lt HR0.out
            omega
        have HneA := Lib.hid hneA
        have hszk : N + 1 + 2404 + 5000 * sizeT n t ≤ 1073741824 := by omega
        have HKx := Lib.hid (hK)
        clear hcell hA hC ht hneA hK
        go_upto_if 73 with fail
        go_cut [1] from 72 to 76 (fun s0 wx => ∃ (A1 : Option Addr) (c1 N1 : Nat), s0 = .slice A1 N1 c1 ∧ N1 ≤ N + 1 ∧ BufN base wx (M ++ ([123] ++ itemsT (preM dks) (sayL n) dkd k) ++ (if k = 0 then [] else [44])) N1 (.slice A1 N1 c1) ∧ Grb wr (.slice A' N c') wx (.slice A1 N1 c1))
        case first =>
          clear hcs
          by_cases hk00 : k = 0
          · have HP := Lib.hid (show (if k = 0 then ([] : List UInt8) else [44]) = [] from if_pos hk00)
            have hp0 : ¬ 0 < k := by omega
            clear hk00
            go_wp2_with fail
            go_meet
            exact ⟨A', c', N, rfl, by omega, by rw [HP.out, List.append_nil]; exact HBf.out, Grb.of _ (Below.refl _ _)⟩
          · have HP := Lib.hid (show (if k = 0 then ([] : List UInt8) else [44]) = [44] from if_neg hk00)
            have hp0 : 0 < k := by omega
            clear hk00
            obtain ⟨A7, c7, w7, hr7, h7, g7⟩ := bufN_lit wr base N c' 1 A' _ [44] [.int .u8 44] HBf.out rfl rfl (by omega) (by decide) hbwr
            have H7 := Lib.hid (And.intro h7 g7)
            clear h7 g7
            go_wp2_with (at_builtin; refine wpList_append_of rfl (.tmp 74) (.tmp 75) 37 rfl _ _ _ w7 rfl rfl hr7 ?_)
            go_meet
            exact ⟨A7, c7, N + 1, rfl, Nat.le_refl _, by rw [HP.out]; exact H7.out.1, H7.out.2⟩
        case rest =>
          obtain ⟨A1, c1, N1, rfl, hN1, hb1, hg1⟩ := hcut
          have HT1 := Lib.hid ((hg1.keep l1 (fun e => (HneA.out _ e).1 rfl)).trans HT.out)
          have HB1 := Lib.hid hb1
          have HG1 := Lib.hid hg1
          have hs1 := hg1.grown.size
          have HA1 := Lib.hid (show ∀ q, (Value.slice A1 N1 c1).ownBlock = some q → q ≠ w.heap.size from fun q hq => by
            rcases hg1.at' q hq with h1 | h1
            · exact (HneA.out q h1).1
            · omega)
          clear hb1 hg1 x0 x1 x2 x3 x4 x5 xf
          obtain ⟨x0, x1, x2, x3, x4, x5, xf⟩ := row6 HT1.out
          have lx := row_lt HT1.out
          have hbwc := ((hG0.out.trans HGr.out).trans HG1.out).below hbuf.2 hbw
          obtain ⟨q, oq, rfl, -, hql, hqc⟩ := HKx.out (by have := HLL.out; omega)
          obtain ⟨s, hs⟩ := exists_at (show k < dks.length by have := HLL.out; omega)
          obtain ⟨es', -, hcs', rfl, hss⟩ := hqc k s hs
          have hkc := (hbwc.cell (p := ⟨q, oq + k * 1 + 0, none⟩) hql).trans (hcs' 0 (by omega))
          simp at hkc
          have hqw : q < wc.heap.size := by have := hG0.out.grown.size; omega
          have hk2 : (k : Int) < dks.length := by have := HLL.out; omega
          have hs4 := shape_key HSh.out hs
          have hql2 := quote_len s
          have hqe : (quoteB s).data.toList.length = (quoteB s).size := Array.length_toList
          have HPz := Lib.hid (show preM dks k = (quoteB s).data.toList ++ [58] by unfold preM; rw [hs])
          have HQC := Lib.hid (c_spec_Quoted s wc (by omega))
          have hb01 : (quoteB s).size ≤ 2402 := by omega
          clear hcs' hqc hs hqe hql2 hbwc
          go_wp2_with fail
          refine HQC.out.mono ?_
          rintro e w4 ⟨rfl, hb4⟩
          have hs44 := hb4.size
          obtain ⟨A2, c2, w5, hr5, h5, g5⟩ := bufN_str w4 base N1 c1 A1 _ (quoteB s) (HB1.out.below hb4) (by omega) (by omega)
          have hs55 := g5.grown.size
          obtain ⟨A3, c3, w6, hr6, h6, g6⟩ := bufN_lit w5 base (N1 + (quoteB s).size) c2 1 A2 _ [58] [.int .u8 58] h5 rfl rfl (by omega) (by decide) (by omega)
          have hs66 := g6.grown.size
          have HG5 := Lib.hid (((HG1.out.trans (Grb.of _ hb4)).trans g5).trans g6)
          have hbq := ((hG0.out.trans HGr.out).trans HG5.out).below hbuf.2 hbw
          have HT5 := Lib.hid ((HG5.out.keep l1 (fun e => (HneA.out _ e).1 rfl)).trans HT.out)
          have HB5 := Lib.hid h6
          have HA5 := Lib.hid (show ∀ q, (Value.slice A3 (N1 + (quoteB s).size + 1) c3).ownBlock = some q → q ≠ w.heap.size from fun q hq => by
            rcases HG5.out.at' q hq with h1 | h1
            · exact (HneA.out q h1).1
            · omega)
          have hc0 := (hbq.cell (p := ⟨p, o + k * 6 + 0, none⟩) (by simp; omega)).trans (hcs 0 (by omega))
          simp at hc0
          have hc1 := (hbq.cell (p := ⟨p, o + k * 6 + 1, none⟩) (by simp; omega)).trans (hcs 1 (by omega))
          simp at hc1
          have hc2 := (hbq.cell (p := ⟨p, o + k * 6 + 2, none⟩) (by simp; omega)).trans (hcs 2 (by omega))
          simp at hc2
          have hc3 := (hbq.cell (p := ⟨p, o + k * 6 + 3, none⟩) (by simp; omega)).trans (hcs 3 (by omega))
          simp at hc3
          have hc4 := (hbq.cell (p := ⟨p, o + k * 6 + 4, none⟩) (by simp; omega)).trans (hcs 4 (by omega))
          simp at hc4
          have hc5 := (hbq.cell (p := ⟨p, o + k * 6 + 5, none⟩) (by simp; omega)).trans (hcs 5 (by omega))
          simp at hc5
          clear hcs
          have hpw : p < w6.heap.size := by omega
          clear h5 g5 h6 g6 hb4 hbq x0 x1 x2 x3 x4 x5 xf hkc
          obtain ⟨x0, x1, x2, x3, x4, x5, xf⟩ := row6 HT5.out
          have lx5 := row_lt HT5.out
          go_wp2_with (first | (at_builtin; refine wpList_append_to rfl (.tmp 77) (.tmp 83) 37 9 rfl _ _ _ w5 rfl rfl hr5 ?_) | (at_builtin; refine wpList_append_of rfl (.tmp 85) (.tmp 86) 37 rfl _ _ _ w6 rfl rfl hr6 ?_))
          refine (ih t _ w6 lo base (N1 + (quoteB s).size + 1) c3 A3 _ (HC.out.old (((hG0.out.trans HGr.out).trans (HG5.out)).below hbuf.2 hbw)) HSt.out (by omega) (by omega) HB5.out).mono ?_
          rintro e w9 ⟨A9, c9, rfl, h9, g9⟩
          have HT9 := Lib.hid ((g9.keep lx5 (fun e => HA5.out _ e rfl)).trans HT5.out)
          have H9 := Lib.hid h9
          have HG9 := Lib.hid ((HGr.out.trans (HG5.out)).trans g9)
          clear h9 g9
          go_wp2_with fail
          go_roundw
          case rel => exact ⟨k + 1, (N1 + (quoteB s).size + 1) + (sayL n t).length, A9, c9, by omega, by go_num, rfl, by rw [HIt.out, HPz.out]; simpa only [List.append_assoc, List.nil_append] using H9.out, HG9.out, HT9.out⟩
          case measure => simp [Lib.intOf]; omega
      · obtain rfl : k = dkd.length := by omega
        have hke : decide (dkd.length < dkd.length) = false := decide_eq_false (Nat.lt_irrefl _)
        have hNz : N ≤ 1073741824 := by
          have := hNb
          rw [List.take_of_length_le (Nat.le_refl _)] at this
          have h2 : S = 1 + szL (sizeT n) dkd := HSz.out
          omega
        obtain ⟨A7, c7, w7, hr7, h7, g7⟩ := bufN_lit wr base N c' 1 A' _ [125] [.int .u8 125] HBf.out rfl rfl (by omega) (by decide) hbwr
        have H7 := Lib.hid (And.intro h7 (hG0.out.trans (HGr.out.trans g7)))
        have HN7 := Lib.hid (show N + 1 = nn + r.length by rw [HX.out, HNl.out]; simp only [List.length_append, List.length_cons, List.length_nil]; omega)
        clear h7 g7 hA hK
        go_wp2_with (at_builtin; refine wpList_append_of rfl (.tmp 95) (.tmp 96) 37 rfl _ _ _ w7 rfl rfl hr7 ?_)
        go_ret
        rw [← HN7.out, HX.out]
        exact ⟨A7, c7, rfl, by rw [List.append_assoc] at H7; rw [← HX.out] at *; exact H7.out.1, H7.out.2⟩
theorem all_sayS : ∀ n, T_sayS n
  | 0 => fun _ _ _ _ _ _ _ _ _ h _ _ _ _ => (C_Tree.none h).elim
  | n + 1 => of_sayS n (all_sayS n)
end Go.Proofs.YtffelpdefjkeaaaGreatDoor
namespace Go.Proofs.YtffelpdefjkeaaaGreatDoor
open Go.RowKit Go.Lib
def bracedB (n : Nat) (d : TreeD) : ByteArray := if okT n d = true then (if 20000 < (sayL n d).length then ⟨#[]⟩ else ⟨(sayL n d).toArray⟩) else ⟨#[]⟩
theorem okT_parts {n : Nat} {d : TreeD} (h : okT n d = true) : sizeT n d ≤ 300 ∧ shapeT n d = true := by
  unfold okT at h
  simp only [Bool.and_eq_true] at h
  exact ⟨of_decide_eq_true h.1.2, h.2⟩
theorem bufN_nil (base : Nat) (w : World) : BufN base w [] 0 (.slice none 0 0) := ⟨rfl, World.ownsRow_nil _ _ _ _⟩
theorem bufN_empty (w : World) (hB : ∀ {w : World} {e : TypeId} {size base B : Nat}, B = w.heap.size → base ≤ w.heap.size → (w.alloc (.cells #[] e)).ownsRow base e size (.slice (some ⟨B, 0, none⟩) 0 0) 0 []) (base : Nat) (hb : base ≤ w.heap.size) : BufN base (w.alloc (.cells #[] 5)) [] 0 (.slice (some ⟨w.heap.size, 0, none⟩) 0 0) := ⟨rfl, hB rfl hb⟩
set_option maxHeartbeats 2000000 in
theorem c_impl_BracedText (n : Nat) (d : TreeD) (cs : List Value) (w : World) (lo : Nat) (h : C_Tree n lo w.heap.size w d cs) (hz : sizeT n d ≤ 1073741824) (hT : Tabs w) (hP : Pow w) :
    Calls Tryz.prog 24 #[.agg cs.toArray] w fun e w' => e = .returned (.string (bracedB n d)) ∧ Below w.heap.size w w' := by
  have HK := Lib.hid (fun (w' : World) (hb : Below w.heap.size w w') => c_impl_TreeOk n d cs w' lo (h.now hb) hz (hT.below hb))
  have HF := Lib.hid (show bracedB n d = if okT n d = true then (if 20000 < (sayL n d).length then ⟨#[]⟩ else ⟨(sayL n d).toArray⟩) else ⟨#[]⟩ from rfl)
  by_cases hok : okT n d = true
  · obtain ⟨h3, hsh⟩ := okT_parts hok
    have HS := Lib.hid (fun (w' : World) (hb : Below w.heap.size w w') => all_sayI n d cs w' w lo w.heap.size 0 0 none [] (h.old hb) hsh hb.size (by omega) (bufN_nil _ _) hT hP (Nat.le_refl _) hb)
    obtain ⟨A4, c4, A5, c5, rfl⟩ := C_Tree.open h
    obtain ⟨r, hr⟩ : ∃ r, r = sayL n d := ⟨_, rfl⟩
    obtain ⟨b, hb⟩ : ∃ b, b = bracedB n d := ⟨_, rfl⟩
    rw [← hr, ← hb] at HF
    rw [← hr] at HS
    rw [hok] at HK HF
    rw [← hb]
    simp only [Nat.zero_add, List.nil_append] at HS
    obtain ⟨m, hm⟩ : ∃ m, m = r.length := ⟨_, rfl⟩
    rw [← hm] at HS HF
    have HM := Lib.hid hm
    have hsz : (⟨r.toArray⟩ : ByteArray).size = m := by rw [hm]; show r.toArray.size = r.length; simp
    clear h hr hb hok hm hz hsh h3 hT hP
    by_cases hlong : 20000 < m
    · have dl : decide ((20000 : Int) < (m : Int)) = true := decide_eq_true (by omega)
      have HX := Lib.hid (show b = ⟨#[]⟩ by rw [HF.out, if_pos rfl, if_pos hlong])
      clear hlong
      go_enter Tryz.func24, Tryz.ntmps24
      go_upto_region 3 with (go_at_call 45; refine (HK.out _ bel).mono ?_; rintro e w1 ⟨rfl, hb⟩; (first | (have hcu2 := Cum.join hcu hb; (try clear hcu); (try clear hc); (try clear hfz); (try clear hsz); (try clear hs0); (try clear hs1); (try clear hs2); (try clear hs3); (try clear hs4); ) | have hcu2 := Cum.mk hb); have hcu := hcu2; clear hcu2; obtain ⟨hc, hfz⟩ := bcell hcu.h; have hsz := hcu.h.size; (try simp at hsz); (try have hs0 := lt_of_succ_le hsz); (try (have hs1 := lt_pred hsz; (try (have hs2 := lt_pred hs1; (try (have hs3 := lt_pred hs2; (try have hs4 := lt_pred hs3))))))))
      go_wp2_with fail
      refine (HS.out _ bel).mono ?_
      rintro e w9 ⟨A9, c9, rfl, h9, g9⟩
      have hcv := own_string HM.out (show w9.ownsRow w.heap.size 5 1 (.slice A9 m c9) m (Lib.strCells ⟨r.toArray⟩) from h9.2)
      have hb8 := g9.below (bufN_nil w.heap.size _).2 (show Below w.heap.size w _ from bel).size
      have hb9 : Below w.heap.size w w9 := Below.trans (show Below w.heap.size w _ from bel) hb8
      clear h9 g9 hb8
      go_wp2_with fail
      go_ret
      exact ⟨by rw [HX.out]; rfl, hb9⟩
    · have dl : decide ((20000 : Int) < (m : Int)) = false := decide_eq_false (by omega)
      have HX := Lib.hid (show b = ⟨r.toArray⟩ by rw [HF.out, if_pos rfl, if_neg hlong])
      clear hlong
      go_enter Tryz.func24, Tryz.ntmps24
      go_upto_region 3 with (go_at_call 45; refine (HK.out _ bel).mono ?_; rintro e w1 ⟨rfl, hb⟩; (first | (have hcu2 := Cum.join hcu hb; (try clear hcu); (try clear hc); (try clear hfz); (try clear hsz); (try clear hs0); (try clear hs1); (try clear hs2); (try clear hs3); (try clear hs4); ) | have hcu2 := Cum.mk hb); have hcu := hcu2; clear hcu2; obtain ⟨hc, hfz⟩ := bcell hcu.h; have hsz := hcu.h.size; (try simp at hsz); (try have hs0 := lt_of_succ_le hsz); (try (have hs1 := lt_pred hsz; (try (have hs2 := lt_pred hs1; (try (have hs3 := lt_pred hs2; (try have hs4 := lt_pred hs3))))))))
      go_wp2_with fail
      refine (HS.out _ bel).mono ?_
      rintro e w9 ⟨A9, c9, rfl, h9, g9⟩
      have hcv := own_string HM.out (show w9.ownsRow w.heap.size 5 1 (.slice A9 m c9) m (Lib.strCells ⟨r.toArray⟩) from h9.2)
      have hb8 := g9.below (bufN_nil w.heap.size _).2 (show Below w.heap.size w _ from bel).size
      have hb9 : Below w.heap.size w w9 := Below.trans (show Below w.heap.size w _ from bel) hb8
      clear h9 g9 hb8
      go_wp2_with fail
      go_ret
      exact ⟨by rw [HX.out]; rfl, hb9⟩
  · rw [Bool.not_eq_true] at hok
    obtain ⟨A4, c4, A5, c5, rfl⟩ := C_Tree.open h
    have HX := Lib.hid (show bracedB n d = ⟨#[]⟩ by rw [HF.out, if_neg (by rw [hok]; decide)])
    rw [hok] at HK
    clear h hok HF hz hT hP
    go_enter Tryz.func24, Tryz.ntmps24
    go_wp2_with (go_at_call 45; refine (HK.out _ bel).mono ?_; rintro e w1 ⟨rfl, hb⟩; (first | (have hcu2 := Cum.join hcu hb; (try clear hcu); (try clear hc); (try clear hfz); (try clear hsz); (try clear hs0); (try clear hs1); (try clear hs2); (try clear hs3); (try clear hs4); ) | have hcu2 := Cum.mk hb); have hcu := hcu2; clear hcu2; obtain ⟨hc, hfz⟩ := bcell hcu.h; have hsz := hcu.h.size; (try simp at hsz); (try have hs0 := lt_of_succ_le hsz); (try (have hs1 := lt_pred hsz; (try (have hs2 := lt_pred hs1; (try (have hs3 := lt_pred hs2; (try have hs4 := lt_pred hs3))))))))
    go_ret
    exact ⟨by rw [HX.out]; rfl, bel⟩
set_option maxHeartbeats 2000000 in
theorem c_spec_BracedText (n : Nat) (d : TreeD) (cs : List Value) (w : World) (lo : Nat) (h : C_Tree n lo w.heap.size w d cs) (hz : sizeT n d ≤ 1073741824)  :
    Calls Tryz.prog 42 #[.agg cs.toArray] w fun e w' => e = .returned (.string (bracedB n d)) ∧ Below w.heap.size w w' := by
  have HK := Lib.hid (fun (w' : World) (hb : Below w.heap.size w w') => c_spec_TreeOk n d cs w' lo (h.now hb) hz)
  have HF := Lib.hid (show bracedB n d = if okT n d = true then (if 20000 < (sayL n d).length then ⟨#[]⟩ else ⟨(sayL n d).toArray⟩) else ⟨#[]⟩ from rfl)
  by_cases hok : okT n d = true
  · obtain ⟨h3, hsh⟩ := okT_parts hok
    have HS := Lib.hid (fun (w' : World) (hb : Below w.heap.size w w') => all_sayS n d cs (w'.alloc (.cells #[] 5)) lo w.heap.size 0 0 (some ⟨w'.heap.size, 0, none⟩) [] (h.old (hb.trans (Below.mono (show Below w'.heap.size w' (w'.alloc (.cells #[] 5)) from bel) hb.size))) hsh (hb.trans (Below.mono (show Below w'.heap.size w' (w'.alloc (.cells #[] 5)) from bel) hb.size)).size (by omega) (bufN_empty w' own_empty _ hb.size))
    obtain ⟨A4, c4, A5, c5, rfl⟩ := C_Tree.open h
    obtain ⟨r, hr⟩ : ∃ r, r = sayL n d := ⟨_, rfl⟩
    obtain ⟨b, hb⟩ : ∃ b, b = bracedB n d := ⟨_, rfl⟩
    rw [← hr, ← hb] at HF
    rw [← hr] at HS
    rw [hok] at HK HF
    rw [← hb]
    simp only [Nat.zero_add, List.nil_append] at HS
    obtain ⟨m, hm⟩ : ∃ m, m = r.length := ⟨_, rfl⟩
    rw [← hm] at HS HF
    have HM := Lib.hid hm
    have hsz : (⟨r.toArray⟩ : ByteArray).size = m := by rw [hm]; show r.toArray.size = r.length; simp
    clear h hr hb hok hm hz hsh h3 
    by_cases hlong : 20000 < m
    · have dl : decide ((20000 : Int) < (m : Int)) = true := decide_eq_true (by omega)
      have HX := Lib.hid (show b = ⟨#[]⟩ by rw [HF.out, if_pos rfl, if_pos hlong])
      clear hlong
      go_enter Tryz.func42, Tryz.ntmps42
      go_upto_region 3 with (go_at_call 27; refine (HK.out _ bel).mono ?_; rintro e w1 ⟨rfl, hb⟩; (first | (have hcu2 := Cum.join hcu hb; (try clear hcu); (try clear hc); (try clear hfz); (try clear hsz); (try clear hs0); (try clear hs1); (try clear hs2); (try clear hs3); (try clear hs4); ) | have hcu2 := Cum.mk hb); have hcu := hcu2; clear hcu2; obtain ⟨hc, hfz⟩ := bcell hcu.h; have hsz := hcu.h.size; (try simp at hsz); (try have hs0 := lt_of_succ_le hsz); (try (have hs1 := lt_pred hsz; (try (have hs2 := lt_pred hs1; (try (have hs3 := lt_pred hs2; (try have hs4 := lt_pred hs3))))))))
      go_wp2_with fail
      refine (HS.out _ bel).mono ?_
      rintro e w9 ⟨A9, c9, rfl, h9, g9⟩
      have hcv := own_string HM.out (show w9.ownsRow w.heap.size 5 1 (.slice A9 m c9) m (Lib.strCells ⟨r.toArray⟩) from h9.2)
      have hb8 := g9.below (bufN_empty _ own_empty w.heap.size (show Below w.heap.size w _ from bel).size).2 (show Below w.heap.size w _ from bel).size
      have hb9 : Below w.heap.size w w9 := Below.trans (show Below w.heap.size w _ from bel) hb8
      clear h9 g9 hb8
      go_wp2_with fail
      go_ret
      exact ⟨by rw [HX.out]; rfl, hb9⟩
    · have dl : decide ((20000 : Int) < (m : Int)) = false := decide_eq_false (by omega)
      have HX := Lib.hid (show b = ⟨r.toArray⟩ by rw [HF.out, if_pos rfl, if_neg hlong])
      clear hlong
      go_enter Tryz.func42, Tryz.ntmps42
      go_upto_region 3 with (go_at_call 27; refine (HK.out _ bel).mono ?_; rintro e w1 ⟨rfl, hb⟩; (first | (have hcu2 := Cum.join hcu hb; (try clear hcu); (try clear hc); (try clear hfz); (try clear hsz); (try clear hs0); (try clear hs1); (try clear hs2); (try clear hs3); (try clear hs4); ) | have hcu2 := Cum.mk hb); have hcu := hcu2; clear hcu2; obtain ⟨hc, hfz⟩ := bcell hcu.h; have hsz := hcu.h.size; (try simp at hsz); (try have hs0 := lt_of_succ_le hsz); (try (have hs1 := lt_pred hsz; (try (have hs2 := lt_pred hs1; (try (have hs3 := lt_pred hs2; (try have hs4 := lt_pred hs3))))))))
      go_wp2_with fail
      refine (HS.out _ bel).mono ?_
      rintro e w9 ⟨A9, c9, rfl, h9, g9⟩
      have hcv := own_string HM.out (show w9.ownsRow w.heap.size 5 1 (.slice A9 m c9) m (Lib.strCells ⟨r.toArray⟩) from h9.2)
      have hb8 := g9.below (bufN_empty _ own_empty w.heap.size (show Below w.heap.size w _ from bel).size).2 (show Below w.heap.size w _ from bel).size
      have hb9 : Below w.heap.size w w9 := Below.trans (show Below w.heap.size w _ from bel) hb8
      clear h9 g9 hb8
      go_wp2_with fail
      go_ret
      exact ⟨by rw [HX.out]; rfl, hb9⟩
  · rw [Bool.not_eq_true] at hok
    obtain ⟨A4, c4, A5, c5, rfl⟩ := C_Tree.open h
    have HX := Lib.hid (show bracedB n d = ⟨#[]⟩ by rw [HF.out, if_neg (by rw [hok]; decide)])
    rw [hok] at HK
    clear h hok HF hz 
    go_enter Tryz.func42, Tryz.ntmps42
    go_wp2_with (go_at_call 27; refine (HK.out _ bel).mono ?_; rintro e w1 ⟨rfl, hb⟩; (first | (have hcu2 := Cum.join hcu hb; (try clear hcu); (try clear hc); (try clear hfz); (try clear hsz); (try clear hs0); (try clear hs1); (try clear hs2); (try clear hs3); (try clear hs4); ) | have hcu2 := Cum.mk hb); have hcu := hcu2; clear hcu2; obtain ⟨hc, hfz⟩ := bcell hcu.h; have hsz := hcu.h.size; (try simp at hsz); (try have hs0 := lt_of_succ_le hsz); (try (have hs1 := lt_pred hsz; (try (have hs2 := lt_pred hs1; (try (have hs3 := lt_pred hs2; (try have hs4 := lt_pred hs3))))))))
    go_ret
    exact ⟨by rw [HX.out]; rfl, bel⟩
end Go.Proofs.YtffelpdefjkeaaaGreatDoor
namespace Go.Proofs.YtffelpdefjkeaaaGreatDoor
open Go.RowKit Go.Lib
def brN (s : ByteArray) : ByteArray × Flt := if (readB s).1.code = 0 then (bracedB 10 (readB s).2, flt0) else (⟨#[]⟩, (readB s).1)
theorem readB_flt (s : ByteArray) (h : (readB s).1.code = 0) : (readB s).1 = flt0 := by
  by_cases hf : (signsF s).2.code = 0
  · have h2 := readJ_good (signsF s).1 s.size (2 * (signsF s).1.length + 4) (.value 1) 0 0 (Nat.zero_le _) (Nat.zero_le _) (by unfold needJ; simp only; omega)
    rcases hq : readJ (signsF s).1 s.size (2 * (signsF s).1.length + 4) (.value 1) 0 0 with f | ⟨t, p, m⟩
    · rw [hq] at h2
      rw [readB_bad hf hq] at h
      exact absurd h h2
    · by_cases hp : p < (signsF s).1.length
      · rw [readB_more hf hq hp] at h
        exact absurd (show (4 : Int) = 0 from h) (by decide)
      · rw [readB_good hf hq hp]
  · rw [readB_sign hf] at h
    exact absurd h hf
theorem size_cnt : ∀ (n : Nat) (d : TreeD), sizeT n d ≤ cntT n d + 1
  | 0, d => by unfold sizeT; omega
  | n + 1, d => by
    have h : ∀ l : List TreeD, szL (sizeT n) l ≤ cntL n l := by
      intro l
      induction l with
      | nil => exact Nat.zero_le _
      | cons x l ih =>
        have h1 := size_cnt n x
        have h2 : cntL n (x :: l) = (4 + cntT n x) + cntL n l := rfl
        simp only [szL]
        omega
    rw [sizeT_succ, cntT_succ]
    have := h d.kids
    omega
theorem size_readB (s : ByteArray) : sizeT 10 (readB s).2 ≤ 1073741824 := by
  have h1 := size_cnt 10 (readB s).2
  have h2 := cnt_readB s
  omega
set_option maxHeartbeats 4000000 in
theorem c_impl_BracedNormal (s : ByteArray) (w : World) (hs : s.size ≤ 1048576) (hP : Pow w) (hE : ErrR w) (hT : Tabs w) (hV : CTab w) :
    Calls Tryz.prog 21 #[.string s] w fun e w' => e = .returned (.tuple #[.string (brN s).1, .agg (fltC (brN s).2)]) ∧ Below w.heap.size w w' := by
  have hz := size_readB s
  have HF := Lib.hid (show brN s = if (readB s).1.code = 0 then (bracedB 10 (readB s).2, flt0) else (⟨#[]⟩, (readB s).1) from rfl)
  have hf0 := readB_flt s
  have HI := Lib.hid (fun (w' : World) (h : Below w.heap.size w w') => c_impl_ReadBraced s w' hs (hV.below h) (hT.below h) (hE.below h))
  obtain ⟨r, hr⟩ : ∃ r, r = readB s := ⟨_, rfl⟩
  rw [← hr] at HI HF hz hf0
  obtain ⟨b, hb⟩ : ∃ b, b = brN s := ⟨_, rfl⟩
  rw [← hb] at HF ⊢
  clear hr hb
  obtain ⟨⟨fc, fa, fp⟩, t⟩ := r
  simp only at HF hz hf0
  have hrf : fltC (⟨fc, fa, fp⟩ : Flt) = #[.int .i64 fc, .int .i64 fa, .string fp] := rfl
  go_enter Tryz.func21, Tryz.ntmps21
  go_wp2_with fail
  refine (HI.out _ bel).mono ?_
  rintro e w1 ⟨cs, rfl, hO1, hb1⟩
  have HC1 := Lib.hid (hO1.toC (fun _ h => h))
  obtain ⟨U4, u44, U5, u55, rfl, -⟩ := hO1.flat
  simp only [hrf]
  clear hO1 hrf
  have X0 : w1.heap[w.heap.size]? = some (.cells #[.int .i64 0, .int .i64 0, .string ⟨#[]⟩] 29 (0, 0)) := (hb1.block _ (by simp)).trans (heap_at rfl)
  have hb01 : Below w.heap.size w w1 := Below.trans bel (hb1.mono (by simp))
  have l0 := row_lt X0
  have HX0 := Lib.hid X0
  have HB01 := Lib.hid hb01
  clear hb1 X0 hb01
  go_upto_region 2 with fail
  obtain ⟨w2, hw2⟩ : ∃ W, W = (w1.alloc (.cells #[.int .i64 t.kind, .bool t.flag, .int .i64 t.num, .string t.text, .slice U4 t.keys.length u44, .slice U5 t.kids.length u55] 27)).alloc (.cells #[.int .i64 fc, .int .i64 fa, .string fp] 29) := ⟨_, rfl⟩
  have hb2 : Below w1.heap.size w1 w2 := by rw [hw2]; exact bel
  have X1 : w2.heap[w1.heap.size]? = some (.cells #[.int .i64 t.kind, .bool t.flag, .int .i64 t.num, .string t.text, .slice U4 t.keys.length u44, .slice U5 t.kids.length u55] 27 (0, 0)) := by rw [hw2]; exact (Below.heap_alloc _ _ _ (by simp)).trans (heap_at rfl)
  have X2 : w2.heap[w1.heap.size + 1]? = some (.cells #[.int .i64 fc, .int .i64 fa, .string fp] 29 (0, 0)) := by rw [hw2]; exact heap_at (by simp)
  rw [← hw2]
  have s2 := hb2.size
  have HX1 := Lib.hid X1
  have HX2 := Lib.hid X2
  have HX02 := Lib.hid ((hb2.block _ l0).trans HX0.out)
  have HB02 := Lib.hid (HB01.out.trans (hb2.mono HB01.out.size))
  have hz01 := HB01.out.size
  have HC2 := Lib.hid ((HC1.out.keep (same_below hb2) (Nat.zero_le _) hb2.size : C_Tree 10 0 w2.heap.size w2 t _))
  have l1 := row_lt X1
  have l2 := row_lt X2
  obtain ⟨x0, x1, x2, x3, x4, x5, xf⟩ := row6 X1
  obtain ⟨y0, y1, y2, yf⟩ := row3 X2
  obtain ⟨z0, z1, z2, zf⟩ := row3 HX02.out
  have l02 := row_lt HX02.out
  clear hw2 hb2 X1 X2 HC1 HX0 HB01
  have q1 : (fc == 0) = false ∨ (fc == 0) = true := by rcases (fc == 0) with _ | _ <;> simp
  rcases q1 with q1 | q1
  · have hne : fc ≠ 0 := fun e => by rw [e] at q1; cases q1
    have HX := Lib.hid (show b = (⟨#[]⟩, ⟨fc, fa, fp⟩) by rw [HF.out, if_neg hne])
    clear hne hf0
    go_upto_region 3 with fail
    go_region_law fail
    go_wp2_with fail
    have hb2 := HB02.out
    all_goals exact bodyPost_ret (v := .tuple #[.string ⟨#[]⟩, .agg #[.int .i64 fc, .int .i64 fa, .string fp]]) (by simp only [results, Tryz.results21]; go_simp) rfl ⟨by rw [HX.out]; rfl, bel⟩
  · have he : fc = 0 := by simpa using q1
    have HX := Lib.hid (show b = (bracedB 10 t, flt0) by rw [HF.out, if_pos he])
    have h0 := hf0 he
    unfold flt0 at h0
    injection h0 with e1 e2 e3
    subst e1 e2 e3
    clear hf0 he
    have HT := Lib.hid (fun (w' : World) (h : Below w2.heap.size w2 w') => c_impl_BracedText 10 t _ w' 0 (HC2.out.now h) hz (hT.below (HB02.out.trans (h.mono HB02.out.size))) (hP.below (HB02.out.trans (h.mono HB02.out.size))))
    go_wp2_with fail
    refine (HT.out _ bel).mono ?_
    rintro e w3 ⟨rfl, hb3⟩
    have h23 : Below w2.heap.size w2 w3 := Below.trans bel (hb3.mono (by simp))
    have h03 := HB02.out.trans (h23.mono HB02.out.size)
    have X0 := (h23.block _ l02).trans HX02.out
    have X2 := (h23.block _ l2).trans HX2.out
    obtain ⟨u0, u1, u2, uf⟩ := row3 X2
    obtain ⟨v0, v1, v2, vf⟩ := row3 X0
    have l03 := row_lt X0
    have l23 := row_lt X2
    clear y0 y1 y2 yf z0 z1 z2 zf x0 x1 x2 x3 x4 x5 xf
    go_wp2_with fail
    have hb2 := HB02.out
    all_goals exact bodyPost_ret (v := .tuple #[.string (bracedB 10 t), .agg #[.int .i64 0, .int .i64 0, .string ⟨#[]⟩]]) (by simp only [results, Tryz.results21]; go_simp) rfl ⟨by rw [HX.out]; rfl, bel⟩
set_option maxHeartbeats 4000000 in
theorem c_spec_BracedNormal (s : ByteArray) (w : World) (hs : s.size ≤ 1048576)  :
    Calls Tryz.prog 20 #[.string s] w fun e w' => e = .returned (.tuple #[.string (brN s).1, .agg (fltC (brN s).2)]) ∧ Below w.heap.size w w' := by
  have hz := size_readB s
  have HF := Lib.hid (show brN s = if (readB s).1.code = 0 then (bracedB 10 (readB s).2, flt0) else (⟨#[]⟩, (readB s).1) from rfl)
  have hf0 := readB_flt s
  have HI := Lib.hid (fun (w' : World) (h : Below w.heap.size w w') => c_spec_ReadBraced s w' hs )
  obtain ⟨r, hr⟩ : ∃ r, r = readB s := ⟨_, rfl⟩
  rw [← hr] at HI HF hz hf0
  obtain ⟨b, hb⟩ : ∃ b, b = brN s := ⟨_, rfl⟩
  rw [← hb] at HF ⊢
  clear hr hb
  obtain ⟨⟨fc, fa, fp⟩, t⟩ := r
  simp only at HF hz hf0
  have hrf : fltC (⟨fc, fa, fp⟩ : Flt) = #[.int .i64 fc, .int .i64 fa, .string fp] := rfl
  go_enter Tryz.func20, Tryz.ntmps20
  go_wp2_with fail
  refine (HI.out _ bel).mono ?_
  rintro e w1 ⟨cs, rfl, hO1, hb1⟩
  have HC1 := Lib.hid (hO1.toC (fun _ h => h))
  obtain ⟨U4, u44, U5, u55, rfl, -⟩ := hO1.flat
  simp only [hrf]
  clear hO1 hrf
  have X0 : w1.heap[w.heap.size]? = some (.cells #[.int .i64 0, .int .i64 0, .string ⟨#[]⟩] 29 (0, 0)) := (hb1.block _ (by simp)).trans (heap_at rfl)
  have hb01 : Below w.heap.size w w1 := Below.trans bel (hb1.mono (by simp))
  have l0 := row_lt X0
  have HX0 := Lib.hid X0
  have HB01 := Lib.hid hb01
  clear hb1 X0 hb01
  go_upto_region 2 with fail
  obtain ⟨w2, hw2⟩ : ∃ W, W = (w1.alloc (.cells #[.int .i64 t.kind, .bool t.flag, .int .i64 t.num, .string t.text, .slice U4 t.keys.length u44, .slice U5 t.kids.length u55] 27)).alloc (.cells #[.int .i64 fc, .int .i64 fa, .string fp] 29) := ⟨_, rfl⟩
  have hb2 : Below w1.heap.size w1 w2 := by rw [hw2]; exact bel
  have X1 : w2.heap[w1.heap.size]? = some (.cells #[.int .i64 t.kind, .bool t.flag, .int .i64 t.num, .string t.text, .slice U4 t.keys.length u44, .slice U5 t.kids.length u55] 27 (0, 0)) := by rw [hw2]; exact (Below.heap_alloc _ _ _ (by simp)).trans (heap_at rfl)
  have X2 : w2.heap[w1.heap.size + 1]? = some (.cells #[.int .i64 fc, .int .i64 fa, .string fp] 29 (0, 0)) := by rw [hw2]; exact heap_at (by simp)
  rw [← hw2]
  have s2 := hb2.size
  have HX1 := Lib.hid X1
  have HX2 := Lib.hid X2
  have HX02 := Lib.hid ((hb2.block _ l0).trans HX0.out)
  have HB02 := Lib.hid (HB01.out.trans (hb2.mono HB01.out.size))
  have hz01 := HB01.out.size
  have HC2 := Lib.hid ((HC1.out.keep (same_below hb2) (Nat.zero_le _) hb2.size : C_Tree 10 0 w2.heap.size w2 t _))
  have l1 := row_lt X1
  have l2 := row_lt X2
  obtain ⟨x0, x1, x2, x3, x4, x5, xf⟩ := row6 X1
  obtain ⟨y0, y1, y2, yf⟩ := row3 X2
  obtain ⟨z0, z1, z2, zf⟩ := row3 HX02.out
  have l02 := row_lt HX02.out
  clear hw2 hb2 X1 X2 HC1 HX0 HB01
  have q1 : (fc == 0) = false ∨ (fc == 0) = true := by rcases (fc == 0) with _ | _ <;> simp
  rcases q1 with q1 | q1
  · have hne : fc ≠ 0 := fun e => by rw [e] at q1; cases q1
    have HX := Lib.hid (show b = (⟨#[]⟩, ⟨fc, fa, fp⟩) by rw [HF.out, if_neg hne])
    clear hne hf0
    go_upto_region 3 with fail
    go_region_law fail
    go_wp2_with fail
    have hb2 := HB02.out
    all_goals exact bodyPost_ret (v := .tuple #[.string ⟨#[]⟩, .agg #[.int .i64 fc, .int .i64 fa, .string fp]]) (by simp only [results, Tryz.results20]; go_simp) rfl ⟨by rw [HX.out]; rfl, bel⟩
  · have he : fc = 0 := by simpa using q1
    have HX := Lib.hid (show b = (bracedB 10 t, flt0) by rw [HF.out, if_pos he])
    have h0 := hf0 he
    unfold flt0 at h0
    injection h0 with e1 e2 e3
    subst e1 e2 e3
    clear hf0 he
    have HT := Lib.hid (fun (w' : World) (h : Below w2.heap.size w2 w') => c_spec_BracedText 10 t _ w' 0 (HC2.out.now h) hz )
    go_upto_region 4 with fail
    go_region_law (go_simp; go_at_call 42; refine (HT.out _ bel).mono ?_; rintro e w3 ⟨rfl, hb3⟩; have h23 : Below w2.heap.size w2 w3 := Below.trans bel (hb3.mono (by simp)); have h03 := HB02.out.trans (h23.mono HB02.out.size); have X0 := (h23.block _ l02).trans HX02.out; have X2 := (h23.block _ l2).trans HX2.out; obtain ⟨u0, u1, u2, uf⟩ := row3 X2; obtain ⟨v0, v1, v2, vf⟩ := row3 X0; have l03 := row_lt X0; have l23 := row_lt X2)
    go_wp2_with fail
    have hb2 := HB02.out
    all_goals exact bodyPost_ret (v := .tuple #[.string (bracedB 10 t), .agg #[.int .i64 0, .int .i64 0, .string ⟨#[]⟩]]) (by simp only [results, Tryz.results20]; go_simp) rfl ⟨by rw [HX.out]; rfl, bel⟩
set_option maxHeartbeats 2000000 in
theorem w_FnExactBracedNormal (d0 : ByteArray) (v0 : Value) (w : World) (h0 : R_Str w d0 v0) (hP : Pow w) (hE : ErrR w) (hT : Tabs w) (hV : CTab w) :
    Calls Tryz.prog 6 #[v0] w fun e w' => e = .returned (.bool true) ∧ Below w.heap.size w w' := by
  obtain ⟨rfl, hs⟩ := h0
  have HC := Lib.hid (And.intro hP (And.intro hV (And.intro hT hE)))
  clear hV hT hE hP
  by_cases hq : d0.size ≤ 1048576
  · have hq1 : decide ((1048576 : Int) < d0.size) = false := decide_eq_false (by omega)
    have HS := Lib.hid (c_spec_BracedNormal d0 w hq)
    have HI := Lib.hid (fun (w' : World) (h : Below w.heap.size w w') => c_impl_BracedNormal d0 w' hq (HC.out.1.below h) (HC.out.2.2.2.below h) (HC.out.2.2.1.below h) (HC.out.2.1.below h))
    obtain ⟨r, hr⟩ : ∃ r, r = brN d0 := ⟨_, rfl⟩
    rw [← hr] at HS HI
    clear hr HC
    obtain ⟨x, ⟨fc, fa, fp⟩⟩ := r
    have hrf : fltC (⟨fc, fa, fp⟩ : Flt) = #[.int .i64 fc, .int .i64 fa, .string fp] := rfl
    simp only [hrf] at HS HI
    clear hrf
    go_enter Tryz.func6, Tryz.ntmps6
    go_wp2_with fail
    refine HS.out.mono ?_
    rintro e w1 ⟨rfl, hb1⟩
    have HB1 := Lib.hid hb1
    have hsz1 := hb1.size
    clear hb1
    go_wp2_with fail
    obtain ⟨w2, hw2⟩ : ∃ W, W = w1.alloc (.cells #[.int .i64 fc, .int .i64 fa, .string fp] 29) := ⟨_, rfl⟩
    have hb2 : Below w1.heap.size w1 w2 := by rw [hw2]; exact bel
    have X1 : w2.heap[w1.heap.size]? = some (.cells #[.int .i64 fc, .int .i64 fa, .string fp] 29 (0, 0)) := by rw [hw2]; exact heap_at rfl
    rw [← hw2]
    have l1 := row_lt X1
    have HB2 := Lib.hid (HB1.out.trans (hb2.mono hsz1))
    refine (HI.out w2 HB2.out).mono ?_
    rintro e w3 ⟨rfl, hb3⟩
    have HX1 := Lib.hid ((hb3.block _ l1).trans X1)
    have h03 := HB2.out.trans (hb3.mono HB2.out.size)
    clear X1 hb3 hb2 hw2 l1
    obtain ⟨y0, y1, y2, yf⟩ := row3 HX1.out
    have l3 := row_lt HX1.out
    go_wp2_with (go_at_call 17; refine (c_laws_eqFault _ _ _ _).mono ?_; rintro e w1 ⟨rfl, hb⟩; (first | (have hcu2 := Cum.join hcu hb; (try clear hcu); (try clear hc); (try clear hfz); (try clear hsz); (try clear hs0); (try clear hs1); (try clear hs2); (try clear hs3); (try clear hs4); ) | have hcu2 := Cum.mk hb); have hcu := hcu2; clear hcu2; obtain ⟨hc, hfz⟩ := bcell hcu.h; have hsz := hcu.h.size; (try simp at hsz); (try have hs0 := lt_of_succ_le hsz); (try (have hs1 := lt_pred hsz; (try (have hs2 := lt_pred hs1; (try (have hs3 := lt_pred hs2; (try have hs4 := lt_pred hs3))))))))
    go_ret
    exact ⟨rfl, bel⟩
  · have hq1 : decide ((1048576 : Int) < d0.size) = true := decide_eq_true (by omega)
    go_enter Tryz.func6, Tryz.ntmps6
    go_wp2_with fail
    go_ret
    exact ⟨rfl, Below.refl _ _⟩
end Go.Proofs.YtffelpdefjkeaaaGreatDoor
