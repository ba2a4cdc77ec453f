/- Written by wip/tools/pack.py: the texts that FnExactPodTree needs, without what it does not need. No conditions. -/
import Derived.Test.YteecgklmdfockaaGreatDoorKFnExactPodTree21
import Derived.Test.YteecgklmdfockaaGreatDoorKFnExactPodTree15
import Derived.Test.YteecgklmdfockaaGreatDoorKFnExactPodTree20
import Derived.Test.YteecgklmdfockaaGreatDoorKFnExactPodTree19
namespace Go.Proofs.YteecgklmdfockaaGreatDoor
open Go.RowKit
set_option maxHeartbeats 8000000 in
set_option maxRecDepth 20000 in
theorem c_spec_PodTree (n : Nat) (d : Pod) (cs : List Value) (w : World) (lo : Nat) (hh : C_Pod lo w.heap.size w d cs) :
    Calls Tryz.prog 15 #[.agg cs.toArray] w fun e w' => ∃ cs', e = .returned (.agg cs'.toArray) ∧ OwnT (n + 5) (fun b => w.heap.size ≤ b ∧ b < w'.heap.size) w' (podT d) cs' ∧ Below w.heap.size w w' := by
  obtain ⟨i0, hi, hz0, hz1, hz2⟩ := info_parts (show (Tryz.prog.info? 30).map (fun i => (i.zero, i.size, i.bytes)) = some (some (.agg #[.int .i64 0, .bool false, .int .i64 0, .string ⟨#[]⟩, .slice none 0 0, .slice none 0 0]), 6, 88) from by kernel_rfl)
  have HC := Lib.hid hh
  obtain ⟨v1, v5, v6, rfl, a0, a1, a2, a3, a4, a5, a6⟩ := hh
  obtain ⟨A1, c1, rfl⟩ := a1.form
  obtain ⟨A5, c5, rfl⟩ := a5.form
  obtain ⟨A6, c6, rfl⟩ := a6.form
  have HA := Lib.hid (And.intro a0 (And.intro a1 (And.intro a2 (And.intro a3 (And.intro a4 (And.intro a5 a6))))))
  clear a0 a1 a2 a3 a4 a5 a6
  have Hhd := Lib.hid (head_ok d.labels)
  rcases ho : podB d with _ | _
  · have HT := Lib.hid (show podT d = tree0 by unfold podT; rw [if_neg (by rw [ho]; decide)])
    go_enter Tryz.func15, Tryz.ntmps15
    go_wp2_with fail
    refine (c_spec_PodOk d [.string d.name, .slice A1 d.labels.length c1, .int .i64 d.cpu, .int .i64 d.mem, .int .i64 d.rank, .slice A5 d.needs.length c5, .slice A6 d.tolerances.length c6] _ lo (C_Pod.now HC.out bel)).mono ?_
    rintro e w1 ⟨rfl, hb⟩
    rw [ho]
    have Z := (hb.block (w.heap.size + 1) (by simp)).trans (heap_at (by simp))
    have hl := row_lt Z
    obtain ⟨x0, x1, x2, x3, x4, x5, xf⟩ := row6 Z
    have Bw : Below w.heap.size w w1 := Below.trans bel (hb.mono (by simp; omega))
    clear Z hb
    go_wp2_with fail
    exact bodyPost_ret (v := .agg #[.int .i64 0, .bool false, .int .i64 0, .string ⟨#[]⟩, .slice none 0 0, .slice none 0 0]) (by simp only [results, Tryz.results15]; go_simp) rfl (tree_fin0 (n := n + 3) HT.out (Bw.trans (Aside.below (S := fun b => b = w.heap.size + 1) (by repeat (first | (with_reducible exact Aside.refl _ _) | ((with_reducible refine aside_set ?_ ?_); (focus (simp; done))) | (with_reducible refine aside_alloc ?_))) Bw.size (fun i hi => by omega))))
  · have HT := Lib.hid (show podT d = ⟨6, false, 0, ⟨#[]⟩, podKs d, podTs d⟩ by unfold podT; rw [if_pos ho])
    have Hho := Lib.hid ho
    go_enter Tryz.func15, Tryz.ntmps15
    go_wp2_with fail
    refine (c_spec_PodOk d [.string d.name, .slice A1 d.labels.length c1, .int .i64 d.cpu, .int .i64 d.mem, .int .i64 d.rank, .slice A5 d.needs.length c5, .slice A6 d.tolerances.length c6] _ lo (C_Pod.now HC.out bel)).mono ?_
    rintro e w1 ⟨rfl, hb⟩
    rw [ho]
    have S1 : w1.heap[w.heap.size]? = some (.cells #[.string d.name, .slice A1 d.labels.length c1, .int .i64 d.cpu, .int .i64 d.mem, .int .i64 d.rank, .slice A5 d.needs.length c5, .slice A6 d.tolerances.length c6] 51 (0, 0)) := (hb.block w.heap.size (by simp; omega)).trans ((Below.heap_alloc _ _ _ (by simp)).trans (heap_at (by simp)))
    have S2 : w1.heap[w.heap.size + 1]? = some (.cells #[.int .i64 0, .bool false, .int .i64 0, .string ⟨#[]⟩, .slice none 0 0, .slice none 0 0] 30 (0, 0)) := (hb.block (w.heap.size + 1) (by simp)).trans (heap_at (by simp))
    have Bw : Below w.heap.size w w1 := Below.trans bel (hb.mono (by simp; omega))
    have hz := hb.size
    simp at hz
    obtain ⟨x0, x1, x2, x3, x4, x5, x6, xf⟩ := row7x S1
    have l1 := row_lt S1
    have R1 := Lib.hid S1
    have R2 := Lib.hid S2
    have HB1 := Lib.hid Bw
    clear S1 S2 hb Bw ho
    go_wp2_with fail
    refine (c_spec_l20Head (n + 2) ⟨#[112, 111, 100]⟩ d.name d.labels (.slice A1 d.labels.length c1) d.cpu d.mem _ lo (by decide) HA.out.1 (HA.out.2.1.keep (same_below HB1.out) (Nat.le_refl _) HB1.out.size) HA.out.2.2.1 HA.out.2.2.2.1).mono ?_
    rintro e w2 ⟨vk, vl, rfl, hg, hb⟩
    obtain ⟨A8, c8, A9, c9, rfl, rfl⟩ := hg.form
    have S1 := (hb.block w.heap.size (by omega)).trans R1.out
    have S2 := (hb.block (w.heap.size + 1) (by omega)).trans R2.out
    have HB2 := Lib.hid (HB1.out.trans (hb.mono HB1.out.size))
    have hz2 := Nat.le_trans hz hb.size
    have Hg := Lib.hid hg
    clear x0 x1 x2 x3 x4 x5 x6 xf l1 hg hb
    obtain ⟨x0, x1, x2, x3, x4, x5, x6, xf⟩ := row7x S1
    have l1 := row_lt S1
    have Q1 := Lib.hid S1
    have Q2 := Lib.hid S2
    clear S1 S2
    go_upto_if 24 with fail
    obtain ⟨tb, htb⟩ : ∃ t, t = w2.heap.size := ⟨_, rfl⟩
    obtain ⟨w3, hW⟩ : ∃ x, x = w2.alloc (.cells #[.int .i64 6, .bool false, .int .i64 0, .string ⟨#[]⟩, .slice A8 (headK d.labels).length c8, .slice A9 (headT ⟨#[112, 111, 100]⟩ d.name d.labels d.cpu d.mem).length c9] 30) := ⟨_, rfl⟩
    rw [← hW, ← htb]
    have hb3 : Below w2.heap.size w2 w3 := by rw [hW]; exact bel
    have HR3 := Lib.hid ((hb3.block _ l1).trans Q1.out)
    have HZ3 := Lib.hid ((hb3.block _ (row_lt Q2.out)).trans Q2.out)
    have HB3 := Lib.hid (HB2.out.trans (hb3.mono HB2.out.size))
    have HG3 := Lib.hid (show GMap (n + 4) (w.heap.size + 2) tb w3 (headK d.labels) (headT ⟨#[112, 111, 100]⟩ d.name d.labels d.cpu d.mem) from by
      refine ⟨_, _, by rw [hW, htb]; exact heap_at rfl, ?_, fun e => by have := (Hg.out.lt.1 _ e).2; omega, fun e => by have := (Hg.out.lt.2 _ e).2; omega⟩
      exact ((Hg.out.box tb (.inl (by omega))).carry hb3.size (fun q _ hq => hb3.block q hq)).less hz)
    have hzt : w.heap.size + 2 ≤ tb := by omega
    have hz3 : tb < w3.heap.size := by rw [hW, htb]; simp
    clear hW htb hb3 x0 x1 x2 x3 x4 x5 x6 xf l1 hz hz2
    obtain ⟨x0, x1, x2, x3, x4, x5, x6, xf⟩ := row7x HR3.out
    have l1 := row_lt HR3.out
    go_cut [4, 5] from 24 to 45 (fun _ _ wx => GMap (n + 4) (w.heap.size + 2) tb wx (headK d.labels ++ optK (!d.needs.isEmpty) hNeeds) (headT ⟨#[112, 111, 100]⟩ d.name d.labels d.cpu d.mem ++ optD (!d.needs.isEmpty) (lstD (d.needs.map needT))) ∧ wx.heap[w.heap.size]? = some (.cells #[.string d.name, .slice A1 d.labels.length c1, .int .i64 d.cpu, .int .i64 d.mem, .int .i64 d.rank, .slice A5 d.needs.length c5, .slice A6 d.tolerances.length c6] 51 (0, 0)) ∧ wx.heap[w.heap.size + 1]? = some (.cells #[.int .i64 0, .bool false, .int .i64 0, .string ⟨#[]⟩, .slice none 0 0, .slice none 0 0] 30 (0, 0)) ∧ Below w.heap.size w wx ∧ tb < wx.heap.size)
    case first =>
      by_cases h0 : d.needs.length = 0
      · have HE := Lib.hid (emp_no h0)
        have hl0 : ¬ (0 : Int) < d.needs.length := by omega
        clear h0
        go_wp2_with fail
        go_meet
        rw [HE.out]
        exact ⟨by simpa [optK, optD] using HG3.out, HR3.out, HZ3.out, HB3.out, hz3⟩
      · have HE := Lib.hid (emp_yes h0)
        have hl0 : (0 : Int) < d.needs.length := by omega
        have hl8 : decide (0 < d.needs.length) = true := decide_eq_true (by omega)
        clear h0
        simp only [hl8]
        have hfew : d.needs.length ≤ 4 := (by have h9 := Hho.out; unfold podB selB at h9; simp only [Bool.and_eq_true, decide_eq_true_eq] at h9; omega)
        have HSl := Lib.hid HA.out.2.2.2.2.2.1
        have hA9 := HA.out.2.2.2.2.2.1
        obtain ⟨A9, c9, hv9, hlc, hcc, hA9⟩ := hA9
        simp only [Value.slice.injEq, true_and] at hv9
        obtain ⟨rfl, rfl⟩ := hv9
        go_wp2_with fail
        go_loopw [4, 5] (fun y i wr => ∃ (k : Nat) (K : Option Addr) (c9 : Nat), k ≤ d.needs.length ∧ i = .int .i64 k ∧ y = .slice K k c9 ∧ GrowK (n + 3) w3.heap.size wr.heap.size wr ((d.needs.take k).map needT) (.slice K k c9) ∧ Below w3.heap.size w3 wr) (fun _ i _ => d.needs.length - (intOf i).toNat)
        case atStart => exact ⟨0, some ⟨w3.heap.size, 0, none⟩, 0, Nat.zero_le _, rfl, rfl, GrowK.empty rfl (Nat.le_refl _), bel⟩
        case round =>
          obtain ⟨k, K, ck, hk, rfl, rfl, hgk, hbr⟩ := hrel
          have Hgk := Lib.hid hgk
          have HBr := Lib.hid hbr
          have hbs := hbr.size
          have hbw : Below w.heap.size w wr := HB3.out.trans (hbr.mono HB3.out.size)
          have HBw := Lib.hid hbw
          have RR := (hbr.block _ l1).trans HR3.out
          have ZZ := (hbr.block _ (row_lt HZ3.out)).trans HZ3.out
          have HRR := Lib.hid RR
          have HZZ := Lib.hid ZZ
          clear x0 x1 x2 x3 x4 x5 x6 xf
          obtain ⟨x0, x1, x2, x3, x4, x5, x6, xf⟩ := row7x RR
          have l5 := row_lt RR
          have HG9 := Lib.hid (HG3.out.carry hbr)
          by_cases hlt : k < d.needs.length
          · obtain ⟨b, o, rfl, -, hb2, hcell⟩ := hA9 (by omega)
            obtain ⟨x, hd⟩ := exists_at hlt
            obtain ⟨es, -, hcs, hC⟩ := hcell k x hd
            have hC9 := hC
            obtain ⟨ev, rfl, -, -, hva⟩ := hC9
            obtain ⟨eA, ec, rfl⟩ := hva.form
            have HX := Lib.hid hC
            have HXv := Lib.hid (show nL ByteArray.size x.values ≤ 1048576 by have h9 := Hho.out; unfold podB selB at h9; simp only [Bool.and_eq_true] at h9; have h8 := chain_ok h9.1.2.2 x (List.mem_of_getElem? hd); have h7 := nL_le ByteArray.size 40 x.values (need_vals h8); have h6 := (need_few h8).1; have h5 : x.values.length * 41 ≤ 4 * 41 := Nat.mul_le_mul_right _ h6; omega)
            have hc0 := (hbw.cell (p := ⟨b, o + k * 3 + 0, none⟩) (by simp; omega)).trans (hcs 0 (by omega))
            have hc1 := (hbw.cell (p := ⟨b, o + k * 3 + 1, none⟩) (by simp; omega)).trans (hcs 1 (by omega))
            have hc2 := (hbw.cell (p := ⟨b, o + k * 3 + 2, none⟩) (by simp; omega)).trans (hcs 2 (by omega))
            simp at hc0 hc1 hc2
            have hbl : b < wr.heap.size := Nat.lt_of_lt_of_le hb2 hbw.size
            have hk0 : (0 : Int) ≤ k := by omega
            have hk1 : (k : Int) < d.needs.length := by omega
            have Htk := Lib.hid (show (d.needs.take (k + 1)).map needT = (d.needs.take k).map needT ++ [needT x] by rw [List.take_add_one, hd]; simp)
            have Hlen := Lib.hid (show ((d.needs.take k).map needT).length = k by rw [List.length_map, List.length_take]; omega)
            clear hcs hcell hA9 hd hgk hbr hbw RR ZZ hva hC
            go_wp2_with fail
            have HBR := HBw.out
            refine (c_spec_NeedTree (n + 0) x [.string x.key, .int .i64 x.op, .slice eA x.values.length ec] _ lo (C_Need.keep HX.out (same_below HBR) (Nat.le_refl _) (Below.size HBR)) HXv.out).mono ?_
            rintro e w8 ⟨cs8, rfl, ho8, hb8⟩
            have ho9 := ho8
            obtain ⟨f4, e4, f5, e5, rfl, -⟩ := ho9.flat
            clear ho9 HBR
            have hs8 := hb8.size
            obtain ⟨ess, F, q1, q2, q3, q4, q5, q6, q7⟩ := (Hgk.out.carry (Nat.le_refl _) (fun g _ hg => hb8.block g hg) : GrowK (n + 3) w3.heap.size wr.heap.size w8 _ _)
            have E3 := Lib.hid ((show w8.ownsRow w3.heap.size 30 6 _ k ess.flatten by rw [← Hlen.out]; exact q3).alloc (.cells #[.int .i64 (needT x).kind, .bool (needT x).flag, .int .i64 (needT x).num, .string (needT x).text, .slice f4 (needT x).keys.length e4, .slice f5 (needT x).kids.length e5] 30))
            have Hone := Lib.hid (ho8.one)
            have RR8 := Lib.hid ((hb8.block _ l5).trans HRR.out)
            clear q3 hc0 hc1 hc2 x0 x1 x2 x3 x4 x5 x6 xf
            go_wp2_with (at_builtin; refine wpList_append_lies _ rfl _ _ 28 rfl w3.heap.size 30 i0 (.agg #[.int .i64 0, .bool false, .int .i64 0, .string ⟨#[]⟩, .slice none 0 0, .slice none 0 0]) 6 88 Tryz.underlying28 hi hz0 hz1 hz2 rfl (by decide) _ k ess.flatten rfl E3.out ⟨w8.heap.size, 0, none⟩ 1 1 [.int .i64 (needT x).kind, .bool (needT x).flag, .int .i64 (needT x).num, .string (needT x).text, .slice f4 (needT x).keys.length e4, .slice f5 (needT x).kids.length e5] rfl rfl (World.news_of_block (heap_alloc_new w8 _)) Hone.out (by decide) (by unfold maxLen; omega) (by omega) (by simp; omega) _ rfl ?_)
            intro g cap w9 hown hgrow hat hlt2
            have Hp := Lib.hid (GrowK.push (hi := wr.heap.size) (S := fun b => wr.heap.size ≤ b ∧ b < w8.heap.size) k Hlen.out (by simp; omega) (ho8.carry (fun b hb => Below.heap_alloc _ _ b hb.2) (fun b hb => by simpa using hb)) (fun b hb => by simp; omega) hbs ess F q1 q2 q4 q5 q6
              (fun i d' es' h1 h2 => (q7 i d' es' h1 h2).carry (fun b hb => Below.heap_alloc _ _ b (by have := (q5 i b hb).2.1; omega)) (fun _ h => h)) hown hgrow (hat.imp id (fun h => by (try rw [h]); (try simp at h); (try simp); try omega)) hlt2)
            have Hb9 := Lib.hid (Below.grown (Below.alloc (HBr.out.trans (hb8.mono hbs)) (by omega) (.cells #[.int .i64 (needT x).kind, .bool (needT x).flag, .int .i64 (needT x).num, .string (needT x).text, .slice f4 (needT x).keys.length e4, .slice f5 (needT x).kids.length e5] 30)) hgrow (by simp; omega) (fun q hq => by have := E3.out.lt q hq; omega))
            clear hgrow hat hown q5 q6 q7 q1 q2 q4 ho8
            go_wp2_with fail
            go_roundw
            case rel => exact ⟨k + 1, _, _, by omega, by go_num, rfl, by rw [Htk.out]; exact Hp.out, Hb9.out⟩
            case measure => simp [intOf]; omega
          · obtain rfl : k = d.needs.length := by omega
            rw [List.take_length] at hgk
            have CT := Lib.hid (grow_list hgk (Nat.le_refl _))
            have Hnt := Lib.hid (show nTree (n + 4) (lstD (d.needs.map needT)) ≤ 1048576 from nTree_lst (n := n + 3) (B := 1000) (by intro t ht; obtain ⟨x, -, rfl⟩ := List.mem_map.1 ht; exact nTree_need (n + 0) x) (by rw [List.length_map]; exact hfew) (by decide))
            clear hA9 hgk hbr RR ZZ
            obtain ⟨B4, B5, n4, d4, n5, d5, hrow, hgr, -, -⟩ := HG9.out.open
            obtain ⟨y0, y1, y2, y3, y4, y5, yf⟩ := row6 hrow
            clear l1
            have l1 := l5
            have l2 := row_lt hrow
            have lz := row_lt HZZ.out
            have HRow := Lib.hid hrow
            have HGr := Lib.hid hgr
            clear hrow hgr hbw
            have hzw := Nat.lt_of_lt_of_le hz3 hbs
            have hbase : w.heap.size + 2 ≤ wr.heap.size := by omega
            go_wp2_with fail
            go_region_law (first | (go_simp; go_at_call 27; refine (c_ListTreeD (n + 3) (d.needs.map needT) _ _ _ _ _ (C_Tree.now CT.out bel) Hnt.out).mono ?_; rintro e wa ⟨cq, rfl, hOq, hba⟩; have hbwa : Below wr.heap.size wr wa := bel; obtain ⟨y0, y1, y2, y3, y4, y5, yf⟩ := row6 ((hbwa.block tb l2).trans HRow.out); have hsza := Nat.lt_of_lt_of_le l2 hbwa.size; have hszb := Nat.lt_of_lt_of_le l1 hbwa.size) | (go_simp; go_at_call 24; refine (c_l20PutG (n + 4) (headK d.labels) (headT ⟨#[112, 111, 100]⟩ d.name d.labels d.cpu d.mem) hNeeds (lstD (d.needs.map needT)) cq _ _ (w.heap.size + 2) (some tb) wr _ HGr.out bel (hOq.carry (fun b hb => rfl) (fun b hb => hb)) (fun q e => by injection e with e; omega) (by omega) (by have := headK_len d.labels; have := headKT ⟨#[112, 111, 100]⟩ d.name d.labels d.cpu d.mem; (try simp); omega) (by intro x hx; exact Hhd.out x hx) (by intro x hx; exact head_lt_needs _ x hx) (by have := headK_len d.labels; have := headKT ⟨#[112, 111, 100]⟩ d.name d.labels d.cpu d.mem; (try simp); omega)).mono ?_; rintro e wB ⟨E4, E5, m4, g4, m5, g5, rfl, hg, e1, e2, hbB⟩; have hBW : Below wr.heap.size wr wB := bel; have T1 := (hBW.block tb l2).trans HRow.out; have Z1 := (hBW.block (w.heap.size + 1) lz).trans HZZ.out; have U1 := (hBW.block w.heap.size l1).trans HRR.out; obtain ⟨y0, y1, y2, y3, y4, y5, yf⟩ := row6 T1; have l3 := row_lt T1; have lz2 := row_lt Z1))
            all_goals
              have n1 : (Value.slice E4 m4 g4).ownBlock ≠ some tb := fun e => by have := e1 _ e; (try simp at this); omega
              have n2 : (Value.slice E5 m5 g5).ownBlock ≠ some tb := fun e => by have := e2 _ e; (try simp at this); omega
              have HT1 := Lib.hid T1
              have HZ1 := Lib.hid Z1
              have HU1 := Lib.hid U1
              have Hg9 := Lib.hid hg
              have HbW := Lib.hid hBW
              clear y0 y1 y2 y3 y4 y5 yf x0 x1 x2 x3 x4 x5 x6 xf T1 Z1 U1 hg e1 e2
              (try go_wp2_with fail)
              go_meet
              have hF : Aside (fun b => b = tb) wB _ := set6_aside wB tb (.slice E4 m4 g4) (.slice E5 m5 g5)
              (try rw [HE.out])
              exact ⟨GMap.of_put Hg9.out hF (six_set _ _ _ _ _ _ HT1.out) n1 n2, (hF.block w.heap.size (by omega) (by omega)).trans HU1.out, (hF.block (w.heap.size + 1) lz2 (by omega)).trans HZ1.out, (HBw.out.trans (HbW.out.mono HBw.out.size)).trans (hF.below (HBw.out.trans (HbW.out.mono HBw.out.size)).size (fun i hi => by omega)), Nat.lt_of_lt_of_le (Nat.lt_of_lt_of_le hzw HbW.out.size) hF.size⟩
    case rest =>
      obtain ⟨hG, hR, hZ, hB, hz⟩ := hcut
      obtain ⟨w4, hwN⟩ : ∃ x, x = wc := ⟨_, rfl⟩
      rw [← hwN] at hG hR hZ hB hz ⊢
      clear hwN
      have HG4 := Lib.hid hG
      have HR4 := Lib.hid hR
      have HZ4 := Lib.hid hZ
      have HB4 := Lib.hid hB
      have hz4 := hz
      clear hG hR hZ hB hz x0 x1 x2 x3 x4 x5 x6 xf l1
      obtain ⟨x0, x1, x2, x3, x4, x5, x6, xf⟩ := row7x HR4.out
      have l1 := row_lt HR4.out
      go_upto_if 48 with fail
      go_cut [] from 48 to 53 (fun wx => GMap (n + 4) (w.heap.size + 2) tb wx (headK d.labels ++ optK (!d.needs.isEmpty) hNeeds ++ optK (d.rank != 0) hRank) (headT ⟨#[112, 111, 100]⟩ d.name d.labels d.cpu d.mem ++ optD (!d.needs.isEmpty) (lstD (d.needs.map needT)) ++ optD (d.rank != 0) (intD d.rank)) ∧ wx.heap[w.heap.size]? = some (.cells #[.string d.name, .slice A1 d.labels.length c1, .int .i64 d.cpu, .int .i64 d.mem, .int .i64 d.rank, .slice A5 d.needs.length c5, .slice A6 d.tolerances.length c6] 51 (0, 0)) ∧ wx.heap[w.heap.size + 1]? = some (.cells #[.int .i64 0, .bool false, .int .i64 0, .string ⟨#[]⟩, .slice none 0 0, .slice none 0 0] 30 (0, 0)) ∧ Below w.heap.size w wx ∧ tb < wx.heap.size)
      case first =>
        rcases hc : (d.rank != 0) with _ | _
        · have hc2 : (d.rank == 0) = true := by simpa using hc
          have HE := Lib.hid hc
          go_wp2_with fail
          go_meet
          rw [HE.out]
          exact ⟨by simpa [optK, optD] using HG4.out, HR4.out, HZ4.out, HB4.out, hz4⟩
        · have hc2 : (d.rank == 0) = false := by simpa using hc
          have HE := Lib.hid hc
          have HRR := Lib.hid HR4.out
          have HZZ := Lib.hid HZ4.out
          obtain ⟨B4, B5, n4, d4, n5, d5, hrow, hgr, -, -⟩ := HG4.out.open
          obtain ⟨y0, y1, y2, y3, y4, y5, yf⟩ := row6 hrow
          have l2 := row_lt hrow
          have lz := row_lt HZ4.out
          have HRow := Lib.hid hrow
          have HGr := Lib.hid hgr
          clear hrow hgr
          go_wp2_with fail
          go_region_law (first | (go_simp; go_at_call 25; refine (c_spec_IntTree d.rank _).mono ?_; rintro e wa ⟨rfl, hba⟩; have hbwa : Below w4.heap.size w4 wa := bel; obtain ⟨y0, y1, y2, y3, y4, y5, yf⟩ := row6 ((hbwa.block tb l2).trans HRow.out); obtain ⟨x0, x1, x2, x3, x4, x5, x6, xf⟩ := row7x ((hbwa.block w.heap.size l1).trans HRR.out); have hsza := Nat.lt_of_lt_of_le l2 hbwa.size; have hszb := Nat.lt_of_lt_of_le l1 hbwa.size) | (go_simp; go_at_call 24; refine (c_l20PutG (n + 4) (headK d.labels ++ optK (!d.needs.isEmpty) hNeeds) (headT ⟨#[112, 111, 100]⟩ d.name d.labels d.cpu d.mem ++ optD (!d.needs.isEmpty) (lstD (d.needs.map needT))) hRank (intD d.rank) (intC d.rank) _ _ (w.heap.size + 2) (some tb) w4 _ HGr.out bel (own_intD HA.out.2.2.2.2.1) (fun q e => by injection e with e; omega) (by omega) (by have := headK_len d.labels; have := headKT ⟨#[112, 111, 100]⟩ d.name d.labels d.cpu d.mem; have := optK_len (!d.needs.isEmpty) hNeeds; have := optKD (!d.needs.isEmpty) hNeeds (lstD (d.needs.map needT)); (try simp); omega) (by intro x hx; simp only [List.mem_append] at hx; rcases hx with hx | hx; exact Hhd.out x hx; exact optK_ok _ (by decide) x hx) (by intro x hx; simp only [List.mem_append] at hx; rcases hx with hx | hx; exact head_lt_rank _ x hx; exact optK_lt _ lt_needs_rank x hx) (by have := headK_len d.labels; have := headKT ⟨#[112, 111, 100]⟩ d.name d.labels d.cpu d.mem; have := optK_len (!d.needs.isEmpty) hNeeds; have := optKD (!d.needs.isEmpty) hNeeds (lstD (d.needs.map needT)); (try simp); omega)).mono ?_; rintro e wB ⟨E4, E5, m4, g4, m5, g5, rfl, hg, e1, e2, hbB⟩; have hBW : Below w4.heap.size w4 wB := bel; have T1 := (hBW.block tb l2).trans HRow.out; have Z1 := (hBW.block (w.heap.size + 1) lz).trans HZZ.out; have U1 := (hBW.block w.heap.size l1).trans HRR.out; obtain ⟨y0, y1, y2, y3, y4, y5, yf⟩ := row6 T1; have l3 := row_lt T1; have lz2 := row_lt Z1))
          all_goals
            have n1 : (Value.slice E4 m4 g4).ownBlock ≠ some tb := fun e => by have := e1 _ e; (try simp at this); omega
            have n2 : (Value.slice E5 m5 g5).ownBlock ≠ some tb := fun e => by have := e2 _ e; (try simp at this); omega
            have HT1 := Lib.hid T1
            have HZ1 := Lib.hid Z1
            have HU1 := Lib.hid U1
            have Hg9 := Lib.hid hg
            have HbW := Lib.hid hBW
            clear y0 y1 y2 y3 y4 y5 yf x0 x1 x2 x3 x4 x5 x6 xf T1 Z1 U1 hg e1 e2
            (try go_wp2_with fail)
            go_meet
            have hF : Aside (fun b => b = tb) wB _ := set6_aside wB tb (.slice E4 m4 g4) (.slice E5 m5 g5)
            (try rw [HE.out])
            exact ⟨GMap.of_put Hg9.out hF (six_set _ _ _ _ _ _ HT1.out) n1 n2, (hF.block w.heap.size (by omega) (by omega)).trans HU1.out, (hF.block (w.heap.size + 1) lz2 (by omega)).trans HZ1.out, (HB4.out.trans (HbW.out.mono HB4.out.size)).trans (hF.below (HB4.out.trans (HbW.out.mono HB4.out.size)).size (fun i hi => by omega)), Nat.lt_of_lt_of_le (Nat.lt_of_lt_of_le hz4 HbW.out.size) hF.size⟩
      case rest =>
        obtain ⟨hG, hR, hZ, hB, hz⟩ := hcut
        obtain ⟨w5, hwN⟩ : ∃ x, x = wc := ⟨_, rfl⟩
        rw [← hwN] at hG hR hZ hB hz ⊢
        clear hwN
        have HG5 := Lib.hid hG
        have HR5 := Lib.hid hR
        have HZ5 := Lib.hid hZ
        have HB5 := Lib.hid hB
        have hz5 := hz
        clear hG hR hZ hB hz x0 x1 x2 x3 x4 x5 x6 xf l1
        obtain ⟨x0, x1, x2, x3, x4, x5, x6, xf⟩ := row7x HR5.out
        have l1 := row_lt HR5.out
        go_upto_if 57 with fail
        go_cut [6, 7] from 57 to 78 (fun _ _ wx => GMap (n + 4) (w.heap.size + 2) tb wx (headK d.labels ++ optK (!d.needs.isEmpty) hNeeds ++ optK (d.rank != 0) hRank ++ optK (!d.tolerances.isEmpty) hTolerances) (headT ⟨#[112, 111, 100]⟩ d.name d.labels d.cpu d.mem ++ optD (!d.needs.isEmpty) (lstD (d.needs.map needT)) ++ optD (d.rank != 0) (intD d.rank) ++ optD (!d.tolerances.isEmpty) (lstD (d.tolerances.map tolTD))) ∧ wx.heap[w.heap.size]? = some (.cells #[.string d.name, .slice A1 d.labels.length c1, .int .i64 d.cpu, .int .i64 d.mem, .int .i64 d.rank, .slice A5 d.needs.length c5, .slice A6 d.tolerances.length c6] 51 (0, 0)) ∧ wx.heap[w.heap.size + 1]? = some (.cells #[.int .i64 0, .bool false, .int .i64 0, .string ⟨#[]⟩, .slice none 0 0, .slice none 0 0] 30 (0, 0)) ∧ Below w.heap.size w wx ∧ tb < wx.heap.size)
        case first =>
          by_cases h0 : d.tolerances.length = 0
          · have HE := Lib.hid (emp_no h0)
            have hl0 : ¬ (0 : Int) < d.tolerances.length := by omega
            clear h0
            go_wp2_with fail
            go_meet
            rw [HE.out]
            exact ⟨by simpa [optK, optD] using HG5.out, HR5.out, HZ5.out, HB5.out, hz5⟩
          · have HE := Lib.hid (emp_yes h0)
            have hl0 : (0 : Int) < d.tolerances.length := by omega
            have hl8 : decide (0 < d.tolerances.length) = true := decide_eq_true (by omega)
            clear h0
            simp only [hl8]
            have hfew : d.tolerances.length ≤ 4 := (by have h9 := Hho.out; unfold podB tolsOkB at h9; simp only [Bool.and_eq_true, decide_eq_true_eq] at h9; omega)
            have HSl := Lib.hid HA.out.2.2.2.2.2.2
            have hA9 := HA.out.2.2.2.2.2.2
            obtain ⟨A9, c9, hv9, hlc, hcc, hA9⟩ := hA9
            simp only [Value.slice.injEq, true_and] at hv9
            obtain ⟨rfl, rfl⟩ := hv9
            go_wp2_with fail
            go_loopw [6, 7] (fun y i wr => ∃ (k : Nat) (K : Option Addr) (c9 : Nat), k ≤ d.tolerances.length ∧ i = .int .i64 k ∧ y = .slice K k c9 ∧ GrowK (n + 3) w5.heap.size wr.heap.size wr ((d.tolerances.take k).map tolTD) (.slice K k c9) ∧ Below w5.heap.size w5 wr) (fun _ i _ => d.tolerances.length - (intOf i).toNat)
            case atStart => exact ⟨0, some ⟨w5.heap.size, 0, none⟩, 0, Nat.zero_le _, rfl, rfl, GrowK.empty rfl (Nat.le_refl _), bel⟩
            case round =>
              obtain ⟨k, K, ck, hk, rfl, rfl, hgk, hbr⟩ := hrel
              have Hgk := Lib.hid hgk
              have HBr := Lib.hid hbr
              have hbs := hbr.size
              have hbw : Below w.heap.size w wr := HB5.out.trans (hbr.mono HB5.out.size)
              have HBw := Lib.hid hbw
              have RR := (hbr.block _ l1).trans HR5.out
              have ZZ := (hbr.block _ (row_lt HZ5.out)).trans HZ5.out
              have HRR := Lib.hid RR
              have HZZ := Lib.hid ZZ
              clear x0 x1 x2 x3 x4 x5 x6 xf
              obtain ⟨x0, x1, x2, x3, x4, x5, x6, xf⟩ := row7x RR
              have l5 := row_lt RR
              have HG9 := Lib.hid (HG5.out.carry hbr)
              by_cases hlt : k < d.tolerances.length
              · obtain ⟨b, o, rfl, -, hb2, hcell⟩ := hA9 (by omega)
                obtain ⟨x, hd⟩ := exists_at hlt
                obtain ⟨es, -, hcs, hC⟩ := hcell k x hd
                obtain ⟨rfl, q1, q2, -⟩ := hC
                have HX := Lib.hid (And.intro q1 q2)
                have hc0 := (hbw.cell (p := ⟨b, o + k * 4 + 0, none⟩) (by simp; omega)).trans (hcs 0 (by omega))
                have hc1 := (hbw.cell (p := ⟨b, o + k * 4 + 1, none⟩) (by simp; omega)).trans (hcs 1 (by omega))
                have hc2 := (hbw.cell (p := ⟨b, o + k * 4 + 2, none⟩) (by simp; omega)).trans (hcs 2 (by omega))
                have hc3 := (hbw.cell (p := ⟨b, o + k * 4 + 3, none⟩) (by simp; omega)).trans (hcs 3 (by omega))
                simp at hc0 hc1 hc2 hc3
                have hbl : b < wr.heap.size := Nat.lt_of_lt_of_le hb2 hbw.size
                have hk0 : (0 : Int) ≤ k := by omega
                have hk1 : (k : Int) < d.tolerances.length := by omega
                have Htk := Lib.hid (show (d.tolerances.take (k + 1)).map tolTD = (d.tolerances.take k).map tolTD ++ [tolTD x] by rw [List.take_add_one, hd]; simp)
                have Hlen := Lib.hid (show ((d.tolerances.take k).map tolTD).length = k by rw [List.length_map, List.length_take]; omega)
                clear hcs hcell hA9 hd hgk hbr hbw RR ZZ q1 q2
                go_wp2_with fail
                have HBR := HBw.out
                refine (c_spec_ToleranceTree (n + 1) x.key x.equal x.value x.effect _ HX.out.1 HX.out.2).mono ?_
                rintro e w8 ⟨cs8, rfl, ho8, hb8⟩
                have ho9 := ho8
                obtain ⟨f4, e4, f5, e5, rfl, -⟩ := ho9.flat
                clear ho9 HBR
                have hs8 := hb8.size
                obtain ⟨ess, F, q1, q2, q3, q4, q5, q6, q7⟩ := (Hgk.out.carry (Nat.le_refl _) (fun g _ hg => hb8.block g hg) : GrowK (n + 3) w5.heap.size wr.heap.size w8 _ _)
                have E3 := Lib.hid ((show w8.ownsRow w5.heap.size 30 6 _ k ess.flatten by rw [← Hlen.out]; exact q3).alloc (.cells #[.int .i64 (tolTD x).kind, .bool (tolTD x).flag, .int .i64 (tolTD x).num, .string (tolTD x).text, .slice f4 (tolTD x).keys.length e4, .slice f5 (tolTD x).kids.length e5] 30))
                have Hone := Lib.hid (ho8.one)
                have RR8 := Lib.hid ((hb8.block _ l5).trans HRR.out)
                clear q3 hc0 hc1 hc2 hc3 x0 x1 x2 x3 x4 x5 x6 xf
                go_wp2_with (at_builtin; refine wpList_append_lies _ rfl _ _ 28 rfl w5.heap.size 30 i0 (.agg #[.int .i64 0, .bool false, .int .i64 0, .string ⟨#[]⟩, .slice none 0 0, .slice none 0 0]) 6 88 Tryz.underlying28 hi hz0 hz1 hz2 rfl (by decide) _ k ess.flatten rfl E3.out ⟨w8.heap.size, 0, none⟩ 1 1 [.int .i64 (tolTD x).kind, .bool (tolTD x).flag, .int .i64 (tolTD x).num, .string (tolTD x).text, .slice f4 (tolTD x).keys.length e4, .slice f5 (tolTD x).kids.length e5] rfl rfl (World.news_of_block (heap_alloc_new w8 _)) Hone.out (by decide) (by unfold maxLen; omega) (by omega) (by simp; omega) _ rfl ?_)
                intro g cap w9 hown hgrow hat hlt2
                have Hp := Lib.hid (GrowK.push (hi := wr.heap.size) (S := fun b => wr.heap.size ≤ b ∧ b < w8.heap.size) k Hlen.out (by simp; omega) (ho8.carry (fun b hb => Below.heap_alloc _ _ b hb.2) (fun b hb => by simpa using hb)) (fun b hb => by simp; omega) hbs ess F q1 q2 q4 q5 q6
                  (fun i d' es' h1 h2 => (q7 i d' es' h1 h2).carry (fun b hb => Below.heap_alloc _ _ b (by have := (q5 i b hb).2.1; omega)) (fun _ h => h)) hown hgrow (hat.imp id (fun h => by (try rw [h]); (try simp at h); (try simp); try omega)) hlt2)
                have Hb9 := Lib.hid (Below.grown (Below.alloc (HBr.out.trans (hb8.mono hbs)) (by omega) (.cells #[.int .i64 (tolTD x).kind, .bool (tolTD x).flag, .int .i64 (tolTD x).num, .string (tolTD x).text, .slice f4 (tolTD x).keys.length e4, .slice f5 (tolTD x).kids.length e5] 30)) hgrow (by simp; omega) (fun q hq => by have := E3.out.lt q hq; omega))
                clear hgrow hat hown q5 q6 q7 q1 q2 q4 ho8
                go_wp2_with fail
                go_roundw
                case rel => exact ⟨k + 1, _, _, by omega, by go_num, rfl, by rw [Htk.out]; exact Hp.out, Hb9.out⟩
                case measure => simp [intOf]; omega
              · obtain rfl : k = d.tolerances.length := by omega
                rw [List.take_length] at hgk
                have CT := Lib.hid (grow_list hgk (Nat.le_refl _))
                have Hnt := Lib.hid (show nTree (n + 4) (lstD (d.tolerances.map tolTD)) ≤ 1048576 from nTree_lst (n := n + 3) (B := 400) (by intro t ht; obtain ⟨x, -, rfl⟩ := List.mem_map.1 ht; exact nTree_tol (n + 1) x) (by rw [List.length_map]; exact hfew) (by decide))
                clear hA9 hgk hbr RR ZZ
                obtain ⟨B4, B5, n4, d4, n5, d5, hrow, hgr, -, -⟩ := HG9.out.open
                obtain ⟨y0, y1, y2, y3, y4, y5, yf⟩ := row6 hrow
                clear l1
                have l1 := l5
                have l2 := row_lt hrow
                have lz := row_lt HZZ.out
                have HRow := Lib.hid hrow
                have HGr := Lib.hid hgr
                clear hrow hgr hbw
                have hzw := Nat.lt_of_lt_of_le hz5 hbs
                have hbase : w.heap.size + 2 ≤ wr.heap.size := by omega
                go_wp2_with fail
                go_region_law (first | (go_simp; go_at_call 27; refine (c_ListTreeD (n + 3) (d.tolerances.map tolTD) _ _ _ _ _ (C_Tree.now CT.out bel) Hnt.out).mono ?_; rintro e wa ⟨cq, rfl, hOq, hba⟩; have hbwa : Below wr.heap.size wr wa := bel; obtain ⟨y0, y1, y2, y3, y4, y5, yf⟩ := row6 ((hbwa.block tb l2).trans HRow.out); have hsza := Nat.lt_of_lt_of_le l2 hbwa.size; have hszb := Nat.lt_of_lt_of_le l1 hbwa.size) | (go_simp; go_at_call 24; refine (c_l20PutG (n + 4) (headK d.labels ++ optK (!d.needs.isEmpty) hNeeds ++ optK (d.rank != 0) hRank) (headT ⟨#[112, 111, 100]⟩ d.name d.labels d.cpu d.mem ++ optD (!d.needs.isEmpty) (lstD (d.needs.map needT)) ++ optD (d.rank != 0) (intD d.rank)) hTolerances (lstD (d.tolerances.map tolTD)) cq _ _ (w.heap.size + 2) (some tb) wr _ HGr.out bel (hOq.carry (fun b hb => rfl) (fun b hb => hb)) (fun q e => by injection e with e; omega) (by omega) (by have := headK_len d.labels; have := headKT ⟨#[112, 111, 100]⟩ d.name d.labels d.cpu d.mem; have := optK_len (!d.needs.isEmpty) hNeeds; have := optKD (!d.needs.isEmpty) hNeeds (lstD (d.needs.map needT)); have := optK_len (d.rank != 0) hRank; have := optKD (d.rank != 0) hRank (intD d.rank); (try simp); omega) (by intro x hx; simp only [List.mem_append] at hx; rcases hx with (hx | hx) | hx; exact Hhd.out x hx; exact optK_ok _ (by decide) x hx; exact optK_ok _ (by decide) x hx) (by intro x hx; simp only [List.mem_append] at hx; rcases hx with (hx | hx) | hx; exact head_lt_tolerances _ x hx; exact optK_lt _ lt_needs_tolerances x hx; exact optK_lt _ lt_rank_tolerances x hx) (by have := headK_len d.labels; have := headKT ⟨#[112, 111, 100]⟩ d.name d.labels d.cpu d.mem; have := optK_len (!d.needs.isEmpty) hNeeds; have := optKD (!d.needs.isEmpty) hNeeds (lstD (d.needs.map needT)); have := optK_len (d.rank != 0) hRank; have := optKD (d.rank != 0) hRank (intD d.rank); (try simp); omega)).mono ?_; rintro e wB ⟨E4, E5, m4, g4, m5, g5, rfl, hg, e1, e2, hbB⟩; have hBW : Below wr.heap.size wr wB := bel; have T1 := (hBW.block tb l2).trans HRow.out; have Z1 := (hBW.block (w.heap.size + 1) lz).trans HZZ.out; have U1 := (hBW.block w.heap.size l1).trans HRR.out; obtain ⟨y0, y1, y2, y3, y4, y5, yf⟩ := row6 T1; have l3 := row_lt T1; have lz2 := row_lt Z1))
                all_goals
                  have n1 : (Value.slice E4 m4 g4).ownBlock ≠ some tb := fun e => by have := e1 _ e; (try simp at this); omega
                  have n2 : (Value.slice E5 m5 g5).ownBlock ≠ some tb := fun e => by have := e2 _ e; (try simp at this); omega
                  have HT1 := Lib.hid T1
                  have HZ1 := Lib.hid Z1
                  have HU1 := Lib.hid U1
                  have Hg9 := Lib.hid hg
                  have HbW := Lib.hid hBW
                  clear y0 y1 y2 y3 y4 y5 yf x0 x1 x2 x3 x4 x5 x6 xf T1 Z1 U1 hg e1 e2
                  (try go_wp2_with fail)
                  go_meet
                  have hF : Aside (fun b => b = tb) wB _ := set6_aside wB tb (.slice E4 m4 g4) (.slice E5 m5 g5)
                  (try rw [HE.out])
                  exact ⟨GMap.of_put Hg9.out hF (six_set _ _ _ _ _ _ HT1.out) n1 n2, (hF.block w.heap.size (by omega) (by omega)).trans HU1.out, (hF.block (w.heap.size + 1) lz2 (by omega)).trans HZ1.out, (HBw.out.trans (HbW.out.mono HBw.out.size)).trans (hF.below (HBw.out.trans (HbW.out.mono HBw.out.size)).size (fun i hi => by omega)), Nat.lt_of_lt_of_le (Nat.lt_of_lt_of_le hzw HbW.out.size) hF.size⟩
        case rest =>
          obtain ⟨hG, hR, hZ, hB, hz⟩ := hcut
          obtain ⟨w6, hwN⟩ : ∃ x, x = wc := ⟨_, rfl⟩
          rw [← hwN] at hG hR hZ hB hz ⊢
          clear hwN
          have HG6 := Lib.hid hG
          have HR6 := Lib.hid hR
          have HZ6 := Lib.hid hZ
          have HB6 := Lib.hid hB
          have hz6 := hz
          clear hG hR hZ hB hz x0 x1 x2 x3 x4 x5 x6 xf l1
          obtain ⟨E4, E5, m4, d4, m5, d5, hrow, hgr, -, -⟩ := HG6.out.open
          obtain ⟨y0, y1, y2, y3, y4, y5, yf⟩ := row6 hrow
          obtain ⟨z0, z1, z2, z3, z4, z5, zf⟩ := row6 HZ6.out
          have l2 := row_lt hrow
          have l3 := row_lt HZ6.out
          have HGr := Lib.hid hgr
          clear hrow hgr
          go_wp2_with fail
          exact bodyPost_ret (v := .agg #[.int .i64 6, .bool false, .int .i64 0, .string ⟨#[]⟩, .slice E4 m4 d4, .slice E5 m5 d5]) (by simp only [results, Tryz.results15]; go_simp) rfl (tree_fin1 (n := n + 4) (base := w.heap.size + 2) (B := w.heap.size) (b0 := w.heap.size + 1) (wN := w6) HT.out HGr.out (by omega) (by omega) (by repeat (first | (with_reducible exact Aside.refl _ _) | ((with_reducible refine aside_set ?_ ?_); (focus (simp; done))) | (with_reducible refine aside_alloc ?_))) HB6.out (by omega) l3 (podKs_ok d))
end Go.Proofs.YteecgklmdfockaaGreatDoor
namespace Go.Proofs.YteecgklmdfockaaGreatDoor
open Go.RowKit Go.Lib
theorem cnt_lens' {L M : List NeedV} (h : L.map (fun z => z.d.values.length) = M.map (fun z => z.d.values.length)) : cntN (L.map (·.d)) = cntN (M.map (·.d)) := by
  apply cntN_same
  rw [List.map_map, List.map_map]
  exact h
def MkPod (x : Int) (d : Pod) : Prop := MkLabels (x) d.labels ∧ MkNs (x + 2 * d.labels.length) d.needs ∧ MkTolerances (x + 2 * d.labels.length + cntN d.needs) d.tolerances
def cntPod (d : Pod) : Nat := 2 * d.labels.length + cntN d.needs + 4 * d.tolerances.length
set_option maxHeartbeats 2000000 in
set_option maxRecDepth 10000 in
theorem c_laws_toPodO (d : Pod) (cs : List Value) (w : World) (lo : Nat) (h : C_Pod lo w.heap.size w d cs) (hn : nPod d ≤ 1048576) :
    Calls Tryz.prog 16 #[.agg cs.toArray] w fun e w' => ∃ cs', e = .returned (.agg cs'.toArray) ∧ OwnPod (fun b => w.heap.size ≤ b ∧ b < w'.heap.size) w' d cs' ∧ Below w.heap.size w w' := by
  obtain ⟨v1, v5, v6, rfl, a0, a1, a2, a3, a4, a5, a6⟩ := h
  obtain ⟨A1, c1, rfl⟩ := a1.form
  obtain ⟨A5, c5, rfl⟩ := a5.form
  obtain ⟨A6, c6, rfl⟩ := a6.form
  have H1 := Lib.hid a1
  have H5 := Lib.hid a5
  have H6 := Lib.hid a6
  clear a1 a5 a6
  unfold nPod at hn
  have m1 : d.labels.length ≤ 1048576 := by have := nL_def nLabel d.labels; omega
  have m5 : nL nNeed d.needs ≤ 1048576 := by omega
  have m6 : d.tolerances.length ≤ 1048576 := by have := nL_def nTolerance d.tolerances; omega
  clear hn
  go_enter Tryz.func16, Tryz.ntmps16
  go_wp2_with fail
  refine (c_laws_toLabelSO d.labels _ _ _ (Sl_Label.now H1.out bel) m1).mono ?_
  rintro e w1 ⟨X1, x1, rfl, R1, hb⟩
  have z_w1 := hb.size
  (try simp at z_w1)
  have K_w1 := hb
  clear hb
  have SP : w1.heap[w.heap.size]? = some (.cells #[.string d.name, .slice A1 d.labels.length c1, .int .i64 d.cpu, .int .i64 d.mem, .int .i64 d.rank, .slice A5 d.needs.length c5, .slice A6 d.tolerances.length c6] 45 (0, 0)) := (K_w1.block (w.heap.size) (by first | omega | (simp; omega) | (simp; done))).trans (by repeat (first | ((with_reducible refine heap_at ?_); (focus (simp; done))) | (with_reducible apply set7_0) | (with_reducible apply set7_1) | (with_reducible apply set7_2) | (with_reducible apply set7_3) | (with_reducible apply set7_4) | (with_reducible apply set7_5) | (with_reducible apply set7_6) | ((with_reducible refine (Below.heap_setCell _ _ _ _ ?_).trans ?_); focus (first | omega | (simp; omega) | (simp; done))) | ((with_reducible refine (Below.heap_alloc _ _ _ ?_).trans ?_); focus (first | omega | (simp; omega) | (simp; done)))))
  have SQ : w1.heap[w.heap.size + 1]? = some (.cells #[.string ⟨#[]⟩, .slice none 0 0, .int .i64 0, .int .i64 0, .int .i64 0, .slice none 0 0, .slice none 0 0] 51 (0, 0)) := (K_w1.block (w.heap.size + 1) (by first | omega | (simp; omega) | (simp; done))).trans (by repeat (first | ((with_reducible refine heap_at ?_); (focus (simp; done))) | (with_reducible apply set7_0) | (with_reducible apply set7_1) | (with_reducible apply set7_2) | (with_reducible apply set7_3) | (with_reducible apply set7_4) | (with_reducible apply set7_5) | (with_reducible apply set7_6) | ((with_reducible refine (Below.heap_setCell _ _ _ _ ?_).trans ?_); focus (first | omega | (simp; omega) | (simp; done))) | ((with_reducible refine (Below.heap_alloc _ _ _ ?_).trans ?_); focus (first | omega | (simp; omega) | (simp; done)))))
  have SO : w1.heap[w.heap.size + 1 + 1]? = some (.cells #[.string d.name, .slice none 0 0, .int .i64 0, .int .i64 0, .int .i64 0, .slice none 0 0, .slice none 0 0] 51 (0, 0)) := (K_w1.block (w.heap.size + 1 + 1) (by first | omega | (simp; omega) | (simp; done))).trans (by repeat (first | ((with_reducible refine heap_at ?_); (focus (simp; done))) | (with_reducible apply set7_0) | (with_reducible apply set7_1) | (with_reducible apply set7_2) | (with_reducible apply set7_3) | (with_reducible apply set7_4) | (with_reducible apply set7_5) | (with_reducible apply set7_6) | ((with_reducible refine (Below.heap_setCell _ _ _ _ ?_).trans ?_); focus (first | omega | (simp; omega) | (simp; done))) | ((with_reducible refine (Below.heap_alloc _ _ _ ?_).trans ?_); focus (first | omega | (simp; omega) | (simp; done)))))
  obtain ⟨xP0, xP1, xP2, xP3, xP4, xP5, xP6, xPf⟩ := row7x SP
  have lP := row_lt SP
  have mP := Nat.lt_succ_of_lt lP
  have nP := Nat.lt_succ_of_lt mP
  have RP := Lib.hid SP
  clear SP
  obtain ⟨xQ0, xQ1, xQ2, xQ3, xQ4, xQ5, xQ6, xQf⟩ := row7x SQ
  have lQ := row_lt SQ
  have mQ := Nat.lt_succ_of_lt lQ
  have nQ := Nat.lt_succ_of_lt mQ
  have RQ := Lib.hid SQ
  clear SQ
  obtain ⟨xO0, xO1, xO2, xO3, xO4, xO5, xO6, xOf⟩ := row7x SO
  have lO := row_lt SO
  have mO := Nat.lt_succ_of_lt lO
  have nO := Nat.lt_succ_of_lt mO
  have RO := Lib.hid SO
  clear SO
  have V1 := Lib.hid (R1.carry (S' := fun b => w.heap.size + 3 ≤ b ∧ b < w1.heap.size) (fun _ _ => rfl) (fun b hb => ⟨by have := hb.1; (try simp at this); omega, hb.2⟩))
  clear R1
  go_wp2_with fail
  refine (c_laws_toNeedSO d.needs _ _ _ (Sl_Need.now H5.out bel) m5).mono ?_
  rintro e w2 ⟨L5, X5, x5, rfl, hL5, R5, hb⟩
  have z_w2 := hb.size
  (try simp at z_w2)
  have K_w2 := hb
  clear hb
  have SP : w2.heap[w.heap.size]? = some (.cells #[.string d.name, .slice A1 d.labels.length c1, .int .i64 d.cpu, .int .i64 d.mem, .int .i64 d.rank, .slice A5 d.needs.length c5, .slice A6 d.tolerances.length c6] 45 (0, 0)) := (K_w2.block (w.heap.size) (by first | omega | (simp; omega) | (simp; done))).trans (by repeat (first | (exact RP.out) | ((with_reducible refine heap_at ?_); (focus (simp; done))) | (with_reducible apply set7_0) | (with_reducible apply set7_1) | (with_reducible apply set7_2) | (with_reducible apply set7_3) | (with_reducible apply set7_4) | (with_reducible apply set7_5) | (with_reducible apply set7_6) | ((with_reducible refine (Below.heap_setCell _ _ _ _ ?_).trans ?_); focus (first | omega | (simp; omega) | (simp; done))) | ((with_reducible refine (Below.heap_alloc _ _ _ ?_).trans ?_); focus (first | omega | (simp; omega) | (simp; done)))))
  have SQ : w2.heap[w.heap.size + 1]? = some (.cells #[.string ⟨#[]⟩, .slice none 0 0, .int .i64 0, .int .i64 0, .int .i64 0, .slice none 0 0, .slice none 0 0] 51 (0, 0)) := (K_w2.block (w.heap.size + 1) (by first | omega | (simp; omega) | (simp; done))).trans (by repeat (first | (exact RQ.out) | ((with_reducible refine heap_at ?_); (focus (simp; done))) | (with_reducible apply set7_0) | (with_reducible apply set7_1) | (with_reducible apply set7_2) | (with_reducible apply set7_3) | (with_reducible apply set7_4) | (with_reducible apply set7_5) | (with_reducible apply set7_6) | ((with_reducible refine (Below.heap_setCell _ _ _ _ ?_).trans ?_); focus (first | omega | (simp; omega) | (simp; done))) | ((with_reducible refine (Below.heap_alloc _ _ _ ?_).trans ?_); focus (first | omega | (simp; omega) | (simp; done)))))
  have SO : w2.heap[w.heap.size + 1 + 1]? = some (.cells #[.string d.name, .slice X1 d.labels.length x1, .int .i64 d.cpu, .int .i64 d.mem, .int .i64 d.rank, .slice none 0 0, .slice none 0 0] 51 (0, 0)) := (K_w2.block (w.heap.size + 1 + 1) (by first | omega | (simp; omega) | (simp; done))).trans (by repeat (first | (exact RO.out) | ((with_reducible refine heap_at ?_); (focus (simp; done))) | (with_reducible apply set7_0) | (with_reducible apply set7_1) | (with_reducible apply set7_2) | (with_reducible apply set7_3) | (with_reducible apply set7_4) | (with_reducible apply set7_5) | (with_reducible apply set7_6) | ((with_reducible refine (Below.heap_setCell _ _ _ _ ?_).trans ?_); focus (first | omega | (simp; omega) | (simp; done))) | ((with_reducible refine (Below.heap_alloc _ _ _ ?_).trans ?_); focus (first | omega | (simp; omega) | (simp; done)))))
  clear xP0 xP1 xP2 xP3 xP4 xP5 xP6 RP xPf lP mP nP
  clear xQ0 xQ1 xQ2 xQ3 xQ4 xQ5 xQ6 RQ xQf lQ mQ nQ
  clear xO0 xO1 xO2 xO3 xO4 xO5 xO6 RO xOf lO mO nO
  obtain ⟨xP0, xP1, xP2, xP3, xP4, xP5, xP6, xPf⟩ := row7x SP
  have lP := row_lt SP
  have mP := Nat.lt_succ_of_lt lP
  have nP := Nat.lt_succ_of_lt mP
  have RP := Lib.hid SP
  clear SP
  obtain ⟨xQ0, xQ1, xQ2, xQ3, xQ4, xQ5, xQ6, xQf⟩ := row7x SQ
  have lQ := row_lt SQ
  have mQ := Nat.lt_succ_of_lt lQ
  have nQ := Nat.lt_succ_of_lt mQ
  have RQ := Lib.hid SQ
  clear SQ
  obtain ⟨xO0, xO1, xO2, xO3, xO4, xO5, xO6, xOf⟩ := row7x SO
  have lO := row_lt SO
  have mO := Nat.lt_succ_of_lt lO
  have nO := Nat.lt_succ_of_lt mO
  have RO := Lib.hid SO
  clear SO
  have V5 := Lib.hid (show Own_Need (fun b => w1.heap.size ≤ b ∧ b < w2.heap.size) w2 d.needs (.slice X5 d.needs.length x5) from ⟨L5, hL5, R5.carry (fun _ _ => rfl) (fun b hb => ⟨by have := hb.1; (try simp at this); omega, hb.2⟩)⟩)
  clear hL5 R5
  go_wp2_with fail
  refine (c_laws_toToleranceSO d.tolerances _ _ _ (Sl_Tolerance.now H6.out bel) m6).mono ?_
  rintro e w3 ⟨X6, x6, rfl, R6, hb⟩
  have z_w3 := hb.size
  (try simp at z_w3)
  have K_w3 := hb
  clear hb
  have SP : w3.heap[w.heap.size]? = some (.cells #[.string d.name, .slice A1 d.labels.length c1, .int .i64 d.cpu, .int .i64 d.mem, .int .i64 d.rank, .slice A5 d.needs.length c5, .slice A6 d.tolerances.length c6] 45 (0, 0)) := (K_w3.block (w.heap.size) (by first | omega | (simp; omega) | (simp; done))).trans (by repeat (first | (exact RP.out) | ((with_reducible refine heap_at ?_); (focus (simp; done))) | (with_reducible apply set7_0) | (with_reducible apply set7_1) | (with_reducible apply set7_2) | (with_reducible apply set7_3) | (with_reducible apply set7_4) | (with_reducible apply set7_5) | (with_reducible apply set7_6) | ((with_reducible refine (Below.heap_setCell _ _ _ _ ?_).trans ?_); focus (first | omega | (simp; omega) | (simp; done))) | ((with_reducible refine (Below.heap_alloc _ _ _ ?_).trans ?_); focus (first | omega | (simp; omega) | (simp; done)))))
  have SQ : w3.heap[w.heap.size + 1]? = some (.cells #[.string ⟨#[]⟩, .slice none 0 0, .int .i64 0, .int .i64 0, .int .i64 0, .slice none 0 0, .slice none 0 0] 51 (0, 0)) := (K_w3.block (w.heap.size + 1) (by first | omega | (simp; omega) | (simp; done))).trans (by repeat (first | (exact RQ.out) | ((with_reducible refine heap_at ?_); (focus (simp; done))) | (with_reducible apply set7_0) | (with_reducible apply set7_1) | (with_reducible apply set7_2) | (with_reducible apply set7_3) | (with_reducible apply set7_4) | (with_reducible apply set7_5) | (with_reducible apply set7_6) | ((with_reducible refine (Below.heap_setCell _ _ _ _ ?_).trans ?_); focus (first | omega | (simp; omega) | (simp; done))) | ((with_reducible refine (Below.heap_alloc _ _ _ ?_).trans ?_); focus (first | omega | (simp; omega) | (simp; done)))))
  have SO : w3.heap[w.heap.size + 1 + 1]? = some (.cells #[.string d.name, .slice X1 d.labels.length x1, .int .i64 d.cpu, .int .i64 d.mem, .int .i64 d.rank, .slice X5 d.needs.length x5, .slice none 0 0] 51 (0, 0)) := (K_w3.block (w.heap.size + 1 + 1) (by first | omega | (simp; omega) | (simp; done))).trans (by repeat (first | (exact RO.out) | ((with_reducible refine heap_at ?_); (focus (simp; done))) | (with_reducible apply set7_0) | (with_reducible apply set7_1) | (with_reducible apply set7_2) | (with_reducible apply set7_3) | (with_reducible apply set7_4) | (with_reducible apply set7_5) | (with_reducible apply set7_6) | ((with_reducible refine (Below.heap_setCell _ _ _ _ ?_).trans ?_); focus (first | omega | (simp; omega) | (simp; done))) | ((with_reducible refine (Below.heap_alloc _ _ _ ?_).trans ?_); focus (first | omega | (simp; omega) | (simp; done)))))
  clear xP0 xP1 xP2 xP3 xP4 xP5 xP6 RP xPf lP mP nP
  clear xQ0 xQ1 xQ2 xQ3 xQ4 xQ5 xQ6 RQ xQf lQ mQ nQ
  clear xO0 xO1 xO2 xO3 xO4 xO5 xO6 RO xOf lO mO nO
  obtain ⟨xP0, xP1, xP2, xP3, xP4, xP5, xP6, xPf⟩ := row7x SP
  have lP := row_lt SP
  have mP := Nat.lt_succ_of_lt lP
  have nP := Nat.lt_succ_of_lt mP
  have RP := Lib.hid SP
  clear SP
  obtain ⟨xQ0, xQ1, xQ2, xQ3, xQ4, xQ5, xQ6, xQf⟩ := row7x SQ
  have lQ := row_lt SQ
  have mQ := Nat.lt_succ_of_lt lQ
  have nQ := Nat.lt_succ_of_lt mQ
  have RQ := Lib.hid SQ
  clear SQ
  obtain ⟨xO0, xO1, xO2, xO3, xO4, xO5, xO6, xOf⟩ := row7x SO
  have lO := row_lt SO
  have mO := Nat.lt_succ_of_lt lO
  have nO := Nat.lt_succ_of_lt mO
  have RO := Lib.hid SO
  clear SO
  have V6 := Lib.hid (R6.carry (S' := fun b => w2.heap.size ≤ b ∧ b < w3.heap.size) (fun _ _ => rfl) (fun b hb => ⟨by have := hb.1; (try simp at this); omega, hb.2⟩))
  clear R6
  go_wp2_with fail
  refine bodyPost_ret (v := .agg #[.string d.name, .slice X1 d.labels.length x1, .int .i64 d.cpu, .int .i64 d.mem, .int .i64 d.rank, .slice X5 d.needs.length x5, .slice X6 d.tolerances.length x6]) (by simp only [results, Tryz.results16]; go_simp) rfl ?_
  refine ⟨[.string d.name, .slice X1 d.labels.length x1, .int .i64 d.cpu, .int .i64 d.mem, .int .i64 d.rank, .slice X5 d.needs.length x5, .slice X6 d.tolerances.length x6], rfl, ?_, bel⟩
  exact ⟨_, _, _, _, _, _, rfl, a0, V1.out.carry (fun b hb => (by repeat (first | (with_reducible rfl) | ((with_reducible refine (Below.heap_setCell _ _ _ b ?_).trans ?_); focus (simp; omega)) | ((with_reducible refine (Below.heap_alloc _ _ b ?_).trans ?_); focus (simp; omega)) | ((with_reducible refine (Below.block (by assumption) b ?_).trans ?_); focus (simp; omega))))) (fun _ h => h), a2, a3, a4, V5.out.carry (fun b hb => (by repeat (first | (with_reducible rfl) | ((with_reducible refine (Below.heap_setCell _ _ _ b ?_).trans ?_); focus (simp; omega)) | ((with_reducible refine (Below.heap_alloc _ _ b ?_).trans ?_); focus (simp; omega)) | ((with_reducible refine (Below.block (by assumption) b ?_).trans ?_); focus (simp; omega))))) (fun _ h => h), V6.out.carry (fun b hb => (by repeat (first | (with_reducible rfl) | ((with_reducible refine (Below.heap_setCell _ _ _ b ?_).trans ?_); focus (simp; omega)) | ((with_reducible refine (Below.heap_alloc _ _ b ?_).trans ?_); focus (simp; omega)) | ((with_reducible refine (Below.block (by assumption) b ?_).trans ?_); focus (simp; omega))))) (fun _ h => h), fun b hb => ⟨⟨by omega, by first | omega | (simp; done) | (simp; omega)⟩, by omega, by omega⟩, fun b hb => ⟨⟨by omega, by first | omega | (simp; done) | (simp; omega)⟩, by omega⟩, fun b hb => ⟨by omega, by first | omega | (simp; done) | (simp; omega)⟩⟩
set_option maxHeartbeats 2000000 in
set_option maxRecDepth 10000 in
theorem c_laws_markPod (d : Pod) (cs : List Value) (x : Int) (w : World) (S : Nat → Prop) (h : OwnPod S w d cs) (hSb : ∀ b, S b → b < w.heap.size) (h1 : 0 < x) (h2 : x + cntPod d ≤ 1152921504606846976) :
    Calls Tryz.prog 19 #[.agg cs.toArray, .int .i64 x] w fun e w' => ∃ d', e = .returned (.int .i64 (x + cntPod d)) ∧ cntPod d' = cntPod d ∧ OwnPod S w' d' cs ∧ MkPod x d' ∧ Aside S w w' := by
  obtain ⟨v1, v5, v6, S1, S5, S6, rfl, a0, a1, a2, a3, a4, a5, a6, s1, s5, s6⟩ := h
  have b1 := a1
  obtain ⟨N5, e5, b5⟩ := a5
  have b6 := a6
  unfold cntPod at h2
  have Hx := Lib.hid h2
  obtain ⟨A1, c1, rfl⟩ := b1.form
  have H1 := Lib.hid b1
  obtain ⟨A5, c5, rfl⟩ : ∃ A c, v5 = .slice A d.needs.length c := by obtain ⟨A, c, rfl⟩ := b5.1.form; exact ⟨A, c, by rw [← e5, List.length_map]⟩
  have H5 := Lib.hid b5
  have E5 := Lib.hid e5
  obtain ⟨A6, c6, rfl⟩ := b6.form
  have H6 := Lib.hid b6
  clear h2 b1 a1 b5 e5 b6 a6
  obtain ⟨y1, hy1⟩ : ∃ y : Int, y = x + 2 * d.labels.length := ⟨_, rfl⟩
  have HY1 := Lib.hid hy1
  obtain ⟨y2, hy2⟩ : ∃ y : Int, y = y1 + cntN d.needs := ⟨_, rfl⟩
  have HY2 := Lib.hid hy2
  have hp1 : 0 < y1 := by omega
  have hp2 : 0 < y2 := by omega
  clear hy1 hy2
  go_enter Tryz.func19, Tryz.ntmps19
  go_wp2_with fail
  refine (c_laws_markLabelS d.labels _ _ _ _ (H1.out.carry (fun b hb => (Below.heap_alloc _ _ b (by have := hSb b (s1 b hb).1; first | omega | (simp; omega)))) (fun _ h => h)) (fun b hb => (by have := hSb b (s1 b hb).1; first | omega | (simp; omega))) h1 (by have := Hx.out; omega)).mono ?_
  rintro e w1 ⟨m1, rfl, l1, O1, M1, hb⟩
  rw [← HY1.out]
  have z_w1 := hb.size
  (try simp at z_w1)
  have K_w1 := hb
  clear hb
  have SP : w1.heap[w.heap.size]? = some (.cells #[.string d.name, .slice A1 d.labels.length c1, .int .i64 d.cpu, .int .i64 d.mem, .int .i64 d.rank, .slice A5 d.needs.length c5, .slice A6 d.tolerances.length c6] 51 (0, 0)) := (K_w1.block (w.heap.size) (by first | omega | (simp; done) | (simp; omega)) (fun hq => by have := hSb _ (s1 _ hq).1; omega)).trans (by repeat (first | ((with_reducible refine heap_at ?_); (focus (simp; done))) | (with_reducible apply set7_0) | (with_reducible apply set7_1) | (with_reducible apply set7_2) | (with_reducible apply set7_3) | (with_reducible apply set7_4) | (with_reducible apply set7_5) | (with_reducible apply set7_6) | ((with_reducible refine (Below.heap_setCell _ _ _ _ ?_).trans ?_); focus (first | omega | (simp; omega) | (simp; done))) | ((with_reducible refine (Below.heap_alloc _ _ _ ?_).trans ?_); focus (first | omega | (simp; omega) | (simp; done)))))
  obtain ⟨xP0, xP1, xP2, xP3, xP4, xP5, xP6, xPf⟩ := row7x SP
  have lP := row_lt SP
  have mP := Nat.lt_succ_of_lt lP
  have nP := Nat.lt_succ_of_lt mP
  have RP := Lib.hid SP
  clear SP
  have HO1 := Lib.hid O1
  have HM1 := Lib.hid M1
  have HL1 := Lib.hid l1
  clear O1 M1 l1
  go_wp2_with fail
  refine (c_laws_markNeedS N5 _ _ _ _ (H5.out.carry (fun b hb => ((K_w1.block b (by have := hSb b (s5 b hb).1; first | omega | (simp; omega)) (fun hq => (s1 b hq).2.1 hb)).trans (Below.heap_alloc _ _ b (by have := hSb b (s5 b hb).1; first | omega | (simp; omega))))) (fun _ h => h)) (fun b hb => (by have := hSb b (s5 b hb).1; first | omega | (simp; omega))) hp1 (by have := Hx.out; have := HY1.out; rw [E5.out]; omega)).mono ?_
  rintro e w2 ⟨m5, rfl, l5, O5, M5, hb⟩
  rw [E5.out]
  rw [← HY2.out]
  have z_w2 := hb.size
  (try simp at z_w2)
  have K_w2 := hb
  clear hb
  have SP : w2.heap[w.heap.size]? = some (.cells #[.string d.name, .slice A1 d.labels.length c1, .int .i64 d.cpu, .int .i64 d.mem, .int .i64 d.rank, .slice A5 d.needs.length c5, .slice A6 d.tolerances.length c6] 51 (0, 0)) := (K_w2.block (w.heap.size) (by first | omega | (simp; done) | (simp; omega)) (fun hq => by have := hSb _ (s5 _ hq).1; omega)).trans (by repeat (first | (exact RP.out) | ((with_reducible refine heap_at ?_); (focus (simp; done))) | (with_reducible apply set7_0) | (with_reducible apply set7_1) | (with_reducible apply set7_2) | (with_reducible apply set7_3) | (with_reducible apply set7_4) | (with_reducible apply set7_5) | (with_reducible apply set7_6) | ((with_reducible refine (Below.heap_setCell _ _ _ _ ?_).trans ?_); focus (first | omega | (simp; omega) | (simp; done))) | ((with_reducible refine (Below.heap_alloc _ _ _ ?_).trans ?_); focus (first | omega | (simp; omega) | (simp; done)))))
  clear xP0 xP1 xP2 xP3 xP4 xP5 xP6 RP xPf lP mP nP
  obtain ⟨xP0, xP1, xP2, xP3, xP4, xP5, xP6, xPf⟩ := row7x SP
  have lP := row_lt SP
  have mP := Nat.lt_succ_of_lt lP
  have nP := Nat.lt_succ_of_lt mP
  have RP := Lib.hid SP
  clear SP
  have HO5 := Lib.hid O5
  have HM5 := Lib.hid M5
  have HL5 := Lib.hid l5
  clear O5 M5 l5
  go_wp2_with fail
  refine (c_laws_markToleranceS d.tolerances _ _ _ _ (H6.out.carry (fun b hb => ((K_w2.block b (by have := hSb b (s6 b hb); first | omega | (simp; omega)) (fun hq => (s5 b hq).2 hb)).trans ((K_w1.block b (by have := hSb b (s6 b hb); first | omega | (simp; omega)) (fun hq => (s1 b hq).2.2 hb)).trans (Below.heap_alloc _ _ b (by have := hSb b (s6 b hb); first | omega | (simp; omega)))))) (fun _ h => h)) (fun b hb => (by have := hSb b (s6 b hb); first | omega | (simp; omega))) hp2 (by have := Hx.out; have := HY1.out; have := HY2.out; omega)).mono ?_
  rintro e w3 ⟨m6, rfl, l6, O6, M6, hb⟩
  have z_w3 := hb.size
  (try simp at z_w3)
  have K_w3 := hb
  clear hb
  have SP : w3.heap[w.heap.size]? = some (.cells #[.string d.name, .slice A1 d.labels.length c1, .int .i64 d.cpu, .int .i64 d.mem, .int .i64 d.rank, .slice A5 d.needs.length c5, .slice A6 d.tolerances.length c6] 51 (0, 0)) := (K_w3.block (w.heap.size) (by first | omega | (simp; done) | (simp; omega)) (fun hq => by have := hSb _ (s6 _ hq); omega)).trans (by repeat (first | (exact RP.out) | ((with_reducible refine heap_at ?_); (focus (simp; done))) | (with_reducible apply set7_0) | (with_reducible apply set7_1) | (with_reducible apply set7_2) | (with_reducible apply set7_3) | (with_reducible apply set7_4) | (with_reducible apply set7_5) | (with_reducible apply set7_6) | ((with_reducible refine (Below.heap_setCell _ _ _ _ ?_).trans ?_); focus (first | omega | (simp; omega) | (simp; done))) | ((with_reducible refine (Below.heap_alloc _ _ _ ?_).trans ?_); focus (first | omega | (simp; omega) | (simp; done)))))
  clear xP0 xP1 xP2 xP3 xP4 xP5 xP6 RP xPf lP mP nP
  obtain ⟨xP0, xP1, xP2, xP3, xP4, xP5, xP6, xPf⟩ := row7x SP
  have lP := row_lt SP
  have mP := Nat.lt_succ_of_lt lP
  have nP := Nat.lt_succ_of_lt mP
  have RP := Lib.hid SP
  clear SP
  have HO6 := Lib.hid O6
  have HM6 := Lib.hid M6
  have HL6 := Lib.hid l6
  clear O6 M6 l6
  go_wp2_with fail
  go_ret
  have hl1 : m1.length = d.labels.length := HL1.out
  have hl5 : cntN (m5.map (·.d)) = cntN d.needs := by rw [← E5.out]; exact cnt_lens' HL5.out
  have hl6 : m6.length = d.tolerances.length := HL6.out
  have hM5 : MkNs (x + 2 * (⟨d.name, m1, d.cpu, d.mem, d.rank, m5.map (·.d), m6⟩ : Pod).labels.length) (m5.map (·.d)) := by
    have h9 := HM5.out
    have h8 : y1 = x + 2 * (⟨d.name, m1, d.cpu, d.mem, d.rank, m5.map (·.d), m6⟩ : Pod).labels.length := by have := HY1.out; simp only []; have := hl1; omega
    rw [h8] at h9
    exact h9
  have hM6 : MkTolerances (x + 2 * (⟨d.name, m1, d.cpu, d.mem, d.rank, m5.map (·.d), m6⟩ : Pod).labels.length + cntN (⟨d.name, m1, d.cpu, d.mem, d.rank, m5.map (·.d), m6⟩ : Pod).needs) m6 := by
    have h9 := HM6.out
    have h8 : y2 = x + 2 * (⟨d.name, m1, d.cpu, d.mem, d.rank, m5.map (·.d), m6⟩ : Pod).labels.length + cntN (⟨d.name, m1, d.cpu, d.mem, d.rank, m5.map (·.d), m6⟩ : Pod).needs := by have := HY1.out; have := HY2.out; simp only []; have := hl1; have := hl5; omega
    rw [h8] at h9
    exact h9
  have hfin : y2 + 4 * d.tolerances.length = x + cntPod d := by unfold cntPod; have := HY1.out; have := HY2.out; omega
  exact ⟨⟨d.name, m1, d.cpu, d.mem, d.rank, m5.map (·.d), m6⟩, ret_int hfin, by unfold cntPod; simp only []; omega, ⟨_, _, _, S1, S5, S6, rfl, a0, (HO1.out.carry (fun b hb => ((K_w3.block b (by have := hSb b (s1 b hb).1; first | omega | (simp; omega)) (fun hq => (s1 b hb).2.2 hq)).trans (K_w2.block b (by have := hSb b (s1 b hb).1; first | omega | (simp; omega)) (fun hq => (s1 b hb).2.1 hq)))) (fun _ h => h)), a2, a3, a4, ((show Own_Need S5 w2 (m5.map (·.d)) _ from ⟨_, rfl, HO5.out⟩).carry (fun b hb => (K_w3.block b (by have := hSb b (s5 b hb).1; first | omega | (simp; omega)) (fun hq => (s5 b hb).2 hq))) (fun _ h => h)), HO6.out, s1, s5, s6⟩, ⟨HM1.out, hM5, hM6⟩, ((((aside_alloc (Aside.refl S w)).trans (K_w1.mono (fun b hb => (s1 b hb).1))).trans (K_w2.mono (fun b hb => (s5 b hb).1))).trans (K_w3.mono (fun b hb => (s6 b hb))))⟩
end Go.Proofs.YteecgklmdfockaaGreatDoor
