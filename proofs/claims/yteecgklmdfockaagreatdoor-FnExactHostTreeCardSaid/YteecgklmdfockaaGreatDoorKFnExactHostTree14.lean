/- Written by wip/tools/pack.py: the texts that FnExactHostTree needs, without what it does not need. No conditions. -/
import Derived.Test.YteecgklmdfockaaGreatDoorKFnExactHostTree10
import Derived.Test.YteecgklmdfockaaGreatDoorKFnExactHostTree13
namespace Go.Proofs.YteecgklmdfockaaGreatDoor
open Go.RowKit
def intD (x : Int) : TreeD := ⟨3, false, x, ⟨#[]⟩, [], []⟩
def intC (x : Int) : List Value := [.int .i64 3, .bool false, .int .i64 x, .string ⟨#[]⟩, .slice none 0 0, .slice none 0 0]
theorem own_intD {n : Nat} {S : Nat → Prop} {w : World} {x : Int} (hx : I64 x) : OwnT (n + 1) S w (intD x) (intC x) :=
  OwnT.into ⟨.slice none 0 0, .slice none 0 0, fun _ => False, fun _ => False, rfl, (show I64 3 from by unfold I64; decide), hx, (show ByteArray.size ⟨#[]⟩ ≤ 9223372036854775807 from by decide), fun _ h => h.elim, fun _ h => h.elim, ⟨none, 0, rfl, Nat.le_refl _, by decide, fun h => by simp [intD] at h⟩, ⟨none, 0, rfl, Nat.le_refl _, by decide, fun h => by simp [intD] at h⟩⟩
theorem c_impl_IntTree (x : Int) (w : World) : Calls Tryz.prog 33 #[.int .i64 x] w fun e w' => e = .returned (.agg (intC x).toArray) ∧ Below w.heap.size w w' := by
  go_enter Tryz.func33, Tryz.ntmps33
  go_wp2_with fail
  exact bodyPost_ret (v := .agg #[.int .i64 3, .bool false, .int .i64 x, .string ⟨#[]⟩, .slice none 0 0, .slice none 0 0]) (by simp only [results, Tryz.results33]; go_simp) rfl ⟨rfl, bel⟩
theorem c_spec_IntTree (x : Int) (w : World) : Calls Tryz.prog 25 #[.int .i64 x] w fun e w' => e = .returned (.agg (intC x).toArray) ∧ Below w.heap.size w w' := by
  go_enter Tryz.func25, Tryz.ntmps25
  go_wp2_with fail
  exact bodyPost_ret (v := .agg #[.int .i64 3, .bool false, .int .i64 x, .string ⟨#[]⟩, .slice none 0 0, .slice none 0 0]) (by simp only [results, Tryz.results25]; go_simp) rfl ⟨rfl, bel⟩
theorem tree_fin1 {n base B b0 : Nat} {tb : Option Nat} {w wN wF : World} {T : TreeD} {ks : List ByteArray} {ts : List TreeD} {vk vl : Value} (hT : T = ⟨6, false, 0, ⟨#[]⟩, ks, ts⟩) (h : GRow n base tb wN ks ts vk vl) (hB : B ≤ base) (h0 : b0 < base) (hA : Aside (fun b => b = b0) wN wF) (hb : Below B w wN) (hBb : B ≤ b0) (h1 : b0 < wN.heap.size) (hk : ∀ k ∈ ks, k.size ≤ 9223372036854775807) :
    ∃ cs, Ending.returned (.agg #[.int .i64 6, .bool false, .int .i64 0, .string ⟨#[]⟩, vk, vl]) = Ending.returned (.agg cs.toArray) ∧ OwnT (n + 1) (fun b => B ≤ b ∧ b < wF.heap.size) wF T cs ∧ Below B w wF := by
  subst hT
  refine ⟨[.int .i64 6, .bool false, .int .i64 0, .string ⟨#[]⟩, vk, vl], rfl, ?_, hb.trans (hA.below (by omega) (fun i hi => by omega))⟩
  exact ((GRow.carry (w := wN) h hA.size (fun q q1 q2 => hA.block q q2 (by omega))).less hB).tree hk
theorem optK_ok (b : Bool) {k : ByteArray} (h : k.size ≤ 9223372036854775807) : ∀ x ∈ optK b k, x.size ≤ 9223372036854775807 := by
  intro x hx
  unfold optK at hx
  split at hx
  · simp at hx; subst hx; exact h
  · cases hx
def hostKs (d : Host) : List ByteArray := headK d.labels ++ optK (d.slots != 20) hSlots ++ optK (!d.taints.isEmpty) hTaints
def hostTs (d : Host) : List TreeD := headT ⟨#[104, 111, 115, 116]⟩ d.name d.labels d.cpu d.mem ++ optD (d.slots != 20) (intD d.slots) ++ optD (!d.taints.isEmpty) (lstD (d.taints.map taintTD))
/-- The tree that a host is told as. -/
def hostT (d : Host) : TreeD := if hostB d = true then ⟨6, false, 0, ⟨#[]⟩, hostKs d, hostTs d⟩ else tree0
theorem hostKs_ok (d : Host) : ∀ k ∈ hostKs d, k.size ≤ 9223372036854775807 := by
  intro k hk
  unfold hostKs at hk
  simp only [List.mem_append] at hk
  rcases hk with (hk | hk) | hk
  · exact head_ok _ k hk
  · exact optK_ok _ (by decide) k hk
  · exact optK_ok _ (by decide) k hk
set_option maxHeartbeats 4000000 in
set_option maxRecDepth 20000 in
theorem c_impl_HostTree (n : Nat) (d : Host) (cs : List Value) (w : World) (lo : Nat) (hh : C_Host lo w.heap.size w d cs) (hp : Pow w) :
    Calls Tryz.prog 8 #[.agg cs.toArray] w fun e w' => ∃ cs', e = .returned (.agg cs'.toArray) ∧ OwnT (n + 4) (fun b => w.heap.size ≤ b ∧ b < w'.heap.size) w' (hostT d) cs' ∧ Below w.heap.size w w' := by
  have HC := Lib.hid hh
  have Hp := Lib.hid hp
  obtain ⟨v1, v5, rfl, a0, a1, a2, a3, a4, a5⟩ := hh
  obtain ⟨A1, c1, rfl⟩ := a1.form
  obtain ⟨A5, c5, rfl⟩ := a5.form
  have HA := Lib.hid (And.intro a0 (And.intro a1 (And.intro a2 (And.intro a3 (And.intro a4 a5)))))
  clear a0 a1 a2 a3 a4 a5 hp
  rcases ho : hostB d with _ | _
  · have HT := Lib.hid (show hostT d = tree0 by unfold hostT; rw [if_neg (by rw [ho]; decide)])
    go_enter Tryz.func8, Tryz.ntmps8
    go_wp2_with fail
    refine (c_impl_HostOk d [.string d.name, .slice A1 d.labels.length c1, .int .i64 d.cpu, .int .i64 d.mem, .int .i64 d.slots, .slice A5 d.taints.length c5] _ lo (C_Host.now HC.out bel)).mono ?_
    rintro e w1 ⟨rfl, hb⟩
    rw [ho]
    have Z := (hb.block (w.heap.size + 1) (by simp)).trans (heap_at (by simp))
    have hl := row_lt Z
    obtain ⟨x0, x1, x2, x3, x4, x5, xf⟩ := row6 Z
    have Bw : Below w.heap.size w w1 := Below.trans bel (hb.mono (by simp; omega))
    clear Z hb
    go_wp2_with fail
    exact bodyPost_ret (v := .agg #[.int .i64 0, .bool false, .int .i64 0, .string ⟨#[]⟩, .slice none 0 0, .slice none 0 0]) (by simp only [results, Tryz.results8]; go_simp) rfl (tree_fin0 (n := n + 2) HT.out (Bw.trans (Aside.below (S := fun b => b = w.heap.size + 1) (by repeat (first | (with_reducible exact Aside.refl _ _) | ((with_reducible refine aside_set ?_ ?_); (focus (simp; done))) | (with_reducible refine aside_alloc ?_))) Bw.size (fun i hi => by omega))))
  · have HT := Lib.hid (show hostT d = ⟨6, false, 0, ⟨#[]⟩, hostKs d, hostTs d⟩ by unfold hostT; rw [if_pos ho])
    have Hho := Lib.hid ho
    go_enter Tryz.func8, Tryz.ntmps8
    go_wp2_with fail
    refine (c_impl_HostOk d [.string d.name, .slice A1 d.labels.length c1, .int .i64 d.cpu, .int .i64 d.mem, .int .i64 d.slots, .slice A5 d.taints.length c5] _ lo (C_Host.now HC.out bel)).mono ?_
    rintro e w1 ⟨rfl, hb⟩
    rw [ho]
    have S1 : w1.heap[w.heap.size]? = some (.cells #[.string d.name, .slice A1 d.labels.length c1, .int .i64 d.cpu, .int .i64 d.mem, .int .i64 d.slots, .slice A5 d.taints.length c5] 35 (0, 0)) := (hb.block w.heap.size (by simp; omega)).trans ((Below.heap_alloc _ _ _ (by simp)).trans (heap_at (by simp)))
    have S2 : w1.heap[w.heap.size + 1]? = some (.cells #[.int .i64 0, .bool false, .int .i64 0, .string ⟨#[]⟩, .slice none 0 0, .slice none 0 0] 30 (0, 0)) := (hb.block (w.heap.size + 1) (by simp)).trans (heap_at (by simp))
    have Bw : Below w.heap.size w w1 := Below.trans bel (hb.mono (by simp; omega))
    have hz := hb.size
    simp at hz
    obtain ⟨x0, x1, x2, x3, x4, x5, xf⟩ := row6x S1
    have l1 := row_lt S1
    have R1 := Lib.hid S1
    have R2 := Lib.hid S2
    have HB1 := Lib.hid Bw
    clear S1 S2 hb Bw ho
    go_wp2_with fail
    refine (c_impl_commonTree (n + 1) ⟨#[104, 111, 115, 116]⟩ d.name d.labels (.slice A1 d.labels.length c1) d.cpu d.mem _ lo (by decide) HA.out.1 (HA.out.2.1.keep (same_below HB1.out) (Nat.le_refl _) HB1.out.size) HA.out.2.2.1 HA.out.2.2.2.1 (Hp.out.below HB1.out)).mono ?_
    rintro e w2 ⟨vk, vl, rfl, hg, hb⟩
    obtain ⟨A8, c8, A9, c9, rfl, rfl⟩ := hg.form
    have S1 := (hb.block w.heap.size (by omega)).trans R1.out
    have S2 := (hb.block (w.heap.size + 1) (by omega)).trans R2.out
    have HB2 := Lib.hid (HB1.out.trans (hb.mono HB1.out.size))
    have hz2 := Nat.le_trans hz hb.size
    have Hg := Lib.hid hg
    clear x0 x1 x2 x3 x4 x5 xf l1 hg hb
    obtain ⟨x0, x1, x2, x3, x4, x5, xf⟩ := row6x S1
    have l1 := row_lt S1
    have Q1 := Lib.hid S1
    have Q2 := Lib.hid S2
    clear S1 S2
    go_upto_if 19 with fail
    obtain ⟨tb, htb⟩ : ∃ t, t = w2.heap.size := ⟨_, rfl⟩
    obtain ⟨w3, hW⟩ : ∃ x, x = w2.alloc (.cells #[.int .i64 6, .bool false, .int .i64 0, .string ⟨#[]⟩, .slice A8 (headK d.labels).length c8, .slice A9 (headT ⟨#[104, 111, 115, 116]⟩ d.name d.labels d.cpu d.mem).length c9] 30) := ⟨_, rfl⟩
    rw [← hW, ← htb]
    have hb3 : Below w2.heap.size w2 w3 := by rw [hW]; exact bel
    have HR3 := Lib.hid ((hb3.block _ l1).trans Q1.out)
    have HZ3 := Lib.hid ((hb3.block _ (row_lt Q2.out)).trans Q2.out)
    have HB3 := Lib.hid (HB2.out.trans (hb3.mono HB2.out.size))
    have HG3 := Lib.hid (show GMap (n + 3) (w.heap.size + 2) tb w3 (headK d.labels) (headT ⟨#[104, 111, 115, 116]⟩ d.name d.labels d.cpu d.mem) from by
      refine ⟨_, _, by rw [hW, htb]; exact heap_at rfl, ?_, fun e => by have := (Hg.out.lt.1 _ e).2; omega, fun e => by have := (Hg.out.lt.2 _ e).2; omega⟩
      exact ((Hg.out.box tb (.inl (by omega))).carry hb3.size (fun q _ hq => hb3.block q hq)).less hz)
    have hzt : w.heap.size + 2 ≤ tb := by omega
    have hz3 : tb < w3.heap.size := by rw [hW, htb]; simp
    clear hW htb hb3 x0 x1 x2 x3 x4 x5 xf l1 hz hz2
    obtain ⟨x0, x1, x2, x3, x4, x5, xf⟩ := row6x HR3.out
    have l1 := row_lt HR3.out
    go_cut [] from 19 to 23 (fun wx => GMap (n + 3) (w.heap.size + 2) tb wx (headK d.labels ++ optK (d.slots != 20) hSlots) (headT ⟨#[104, 111, 115, 116]⟩ d.name d.labels d.cpu d.mem ++ optD (d.slots != 20) (intD d.slots)) ∧ wx.heap[w.heap.size]? = some (.cells #[.string d.name, .slice A1 d.labels.length c1, .int .i64 d.cpu, .int .i64 d.mem, .int .i64 d.slots, .slice A5 d.taints.length c5] 35 (0, 0)) ∧ wx.heap[w.heap.size + 1]? = some (.cells #[.int .i64 0, .bool false, .int .i64 0, .string ⟨#[]⟩, .slice none 0 0, .slice none 0 0] 30 (0, 0)) ∧ Below w.heap.size w wx ∧ tb < wx.heap.size)
    case first =>
      rcases hc : (d.slots != 20) with _ | _
      · have hc2 : (d.slots == 20) = true := by simpa using hc
        have HE := Lib.hid hc
        go_wp2_with fail
        go_meet
        rw [HE.out]
        exact ⟨by simpa [optK, optD] using HG3.out, HR3.out, HZ3.out, HB3.out, hz3⟩
      · have hc2 : (d.slots == 20) = false := by simpa using hc
        have HE := Lib.hid hc
        go_wp2_with fail
        refine (c_impl_IntTree d.slots _).mono ?_
        rintro e wA ⟨rfl, hb⟩
        have RA := (hb.block _ l1).trans HR3.out
        have ZA := (hb.block _ (row_lt HZ3.out)).trans HZ3.out
        have BA := HB3.out.trans (hb.mono HB3.out.size)
        have HRA := Lib.hid RA
        have HZA := Lib.hid ZA
        have HBA := Lib.hid BA
        have Hb := Lib.hid hb
        clear x0 x1 x2 x3 x4 x5 xf l1 RA ZA BA hb
        go_wp2_with fail
        refine (c_addKidG (n + 3) (headK d.labels) (headT ⟨#[104, 111, 115, 116]⟩ d.name d.labels d.cpu d.mem) hSlots (intD d.slots) (intC d.slots) tb (w.heap.size + 2) w3 _ HG3.out Hb.out (own_intD HA.out.2.2.2.2.1) (by have := HB3.out.size; omega) (by have := headK_len d.labels; have := headKT ⟨#[104, 111, 115, 116]⟩ d.name d.labels d.cpu d.mem; simp; omega) (by have := headK_len d.labels; have := headKT ⟨#[104, 111, 115, 116]⟩ d.name d.labels d.cpu d.mem; simp; omega)).mono ?_
        rintro e wB ⟨rfl, hgB, hbB, hzB⟩
        have b9 := hbB (w.heap.size + 2) hzt (Nat.le_refl _)
        have RB := Lib.hid ((b9.block w.heap.size (by omega)).trans HRA.out)
        have ZB := Lib.hid ((b9.block (w.heap.size + 1) (by omega)).trans HZA.out)
        have BB := Lib.hid (HBA.out.trans (b9.mono (by omega)))
        have HgB := Lib.hid hgB
        have zB : tb < wB.heap.size := Nat.lt_of_lt_of_le hz3 (Nat.le_trans Hb.out.size hzB)
        clear hgB hbB hzB b9
        go_wp2_with fail
        go_meet
        (try rw [HE.out])
        exact ⟨HgB.out, RB.out, ZB.out, BB.out, zB⟩
    case rest =>
      obtain ⟨hG, hR, hZ, hB, hz⟩ := hcut
      obtain ⟨w4, hwN⟩ : ∃ x, x = wc := ⟨_, rfl⟩
      rw [← hwN] at hG hR hZ hB hz ⊢
      clear hwN
      have HG4 := Lib.hid hG
      have HR4 := Lib.hid hR
      have HZ4 := Lib.hid hZ
      have HB4 := Lib.hid hB
      have hz4 := hz
      clear hG hR hZ hB hz x0 x1 x2 x3 x4 x5 xf l1
      obtain ⟨x0, x1, x2, x3, x4, x5, xf⟩ := row6x HR4.out
      have l1 := row_lt HR4.out
      go_upto_if 27 with fail
      go_cut [] from 27 to 31 (fun wx => GMap (n + 3) (w.heap.size + 2) tb wx (headK d.labels ++ optK (d.slots != 20) hSlots ++ optK (!d.taints.isEmpty) hTaints) (headT ⟨#[104, 111, 115, 116]⟩ d.name d.labels d.cpu d.mem ++ optD (d.slots != 20) (intD d.slots) ++ optD (!d.taints.isEmpty) (lstD (d.taints.map taintTD))) ∧ wx.heap[w.heap.size]? = some (.cells #[.string d.name, .slice A1 d.labels.length c1, .int .i64 d.cpu, .int .i64 d.mem, .int .i64 d.slots, .slice A5 d.taints.length c5] 35 (0, 0)) ∧ wx.heap[w.heap.size + 1]? = some (.cells #[.int .i64 0, .bool false, .int .i64 0, .string ⟨#[]⟩, .slice none 0 0, .slice none 0 0] 30 (0, 0)) ∧ Below w.heap.size w wx ∧ tb < wx.heap.size)
      case first =>
        by_cases h0 : d.taints.length = 0
        · have HE := Lib.hid (emp_no h0)
          have hl0 : ¬ (0 : Int) < d.taints.length := by omega
          clear h0
          go_wp2_with fail
          go_meet
          rw [HE.out]
          exact ⟨by simpa [optK, optD] using HG4.out, HR4.out, HZ4.out, HB4.out, hz4⟩
        · have HE := Lib.hid (emp_yes h0)
          have hl0 : (0 : Int) < d.taints.length := by omega
          clear h0
          go_wp2_with fail
          refine (c_listOf_Taint n d.taints _ _ lo (HA.out.2.2.2.2.2.keep (same_below HB4.out) (Nat.le_refl _) HB4.out.size) (by have h9 := Hho.out; unfold hostB taintsB at h9; simp only [Bool.and_eq_true, decide_eq_true_eq] at h9; omega)).mono ?_
          rintro e wA ⟨ck, rfl, hO, hb⟩
          have HO := Lib.hid hO
          clear hO
          have RA := (hb.block _ l1).trans HR4.out
          have ZA := (hb.block _ (row_lt HZ4.out)).trans HZ4.out
          have BA := HB4.out.trans (hb.mono HB4.out.size)
          have HRA := Lib.hid RA
          have HZA := Lib.hid ZA
          have HBA := Lib.hid BA
          have Hb := Lib.hid hb
          clear x0 x1 x2 x3 x4 x5 xf l1 RA ZA BA hb
          go_wp2_with fail
          refine (c_addKidG (n + 3) (headK d.labels ++ optK (d.slots != 20) hSlots) (headT ⟨#[104, 111, 115, 116]⟩ d.name d.labels d.cpu d.mem ++ optD (d.slots != 20) (intD d.slots)) hTaints (lstD (d.taints.map taintTD)) ck tb (w.heap.size + 2) w4 _ HG4.out Hb.out HO.out (by have := HB4.out.size; omega) (by have := headK_len d.labels; have := headKT ⟨#[104, 111, 115, 116]⟩ d.name d.labels d.cpu d.mem; have := optK_len (d.slots != 20) hSlots; have := optKD (d.slots != 20) hSlots (intD d.slots); simp; omega) (by have := headK_len d.labels; have := headKT ⟨#[104, 111, 115, 116]⟩ d.name d.labels d.cpu d.mem; have := optK_len (d.slots != 20) hSlots; have := optKD (d.slots != 20) hSlots (intD d.slots); simp; omega)).mono ?_
          rintro e wB ⟨rfl, hgB, hbB, hzB⟩
          have b9 := hbB (w.heap.size + 2) hzt (Nat.le_refl _)
          have RB := Lib.hid ((b9.block w.heap.size (by omega)).trans HRA.out)
          have ZB := Lib.hid ((b9.block (w.heap.size + 1) (by omega)).trans HZA.out)
          have BB := Lib.hid (HBA.out.trans (b9.mono (by omega)))
          have HgB := Lib.hid hgB
          have zB : tb < wB.heap.size := Nat.lt_of_lt_of_le hz4 (Nat.le_trans Hb.out.size hzB)
          clear hgB hbB hzB b9
          go_wp2_with fail
          go_meet
          rw [HE.out]
          exact ⟨HgB.out, RB.out, ZB.out, BB.out, zB⟩
      case rest =>
        obtain ⟨hG, hR, hZ, hB, hz⟩ := hcut
        obtain ⟨w5, hwN⟩ : ∃ x, x = wc := ⟨_, rfl⟩
        rw [← hwN] at hG hR hZ hB hz ⊢
        clear hwN
        have HG5 := Lib.hid hG
        have HR5 := Lib.hid hR
        have HZ5 := Lib.hid hZ
        have HB5 := Lib.hid hB
        have hz5 := hz
        clear hG hR hZ hB hz x0 x1 x2 x3 x4 x5 xf l1
        obtain ⟨E4, E5, m4, d4, m5, d5, hrow, hgr, -, -⟩ := HG5.out.open
        obtain ⟨y0, y1, y2, y3, y4, y5, yf⟩ := row6 hrow
        obtain ⟨z0, z1, z2, z3, z4, z5, zf⟩ := row6 HZ5.out
        have l2 := row_lt hrow
        have l3 := row_lt HZ5.out
        have HGr := Lib.hid hgr
        clear hrow hgr
        go_wp2_with fail
        exact bodyPost_ret (v := .agg #[.int .i64 6, .bool false, .int .i64 0, .string ⟨#[]⟩, .slice E4 m4 d4, .slice E5 m5 d5]) (by simp only [results, Tryz.results8]; go_simp) rfl (tree_fin1 (n := n + 3) (base := w.heap.size + 2) (B := w.heap.size) (b0 := w.heap.size + 1) (wN := w5) HT.out HGr.out (by omega) (by omega) (by repeat (first | (with_reducible exact Aside.refl _ _) | ((with_reducible refine aside_set ?_ ?_); (focus (simp; done))) | (with_reducible refine aside_alloc ?_))) HB5.out (by omega) l3 (hostKs_ok d))
end Go.Proofs.YteecgklmdfockaaGreatDoor
namespace Go.Proofs.YteecgklmdfockaaGreatDoor
open Go.RowKit
theorem grow_list {n base hi : Nat} {w : World} {l : List TreeD} {v : Value} (h : GrowK n base hi w l v) (hh : hi ≤ w.heap.size) : C_Tree (n + 1) base w.heap.size w (lstD l) [.int .i64 5, .bool false, .int .i64 0, .string ⟨#[]⟩, .slice none 0 0, v] :=
  (own_lstD h (wF := w) (fun _ _ _ => rfl) (S := fun b => base ≤ b ∧ b < w.heap.size) (fun _ h1 h2 => ⟨h1, Nat.lt_of_lt_of_le h2 hh⟩)).toC (fun _ hb => hb)
theorem lt_slots_taints : lessS hSlots hTaints = true := by simp [lessS, hSlots, hTaints, ByteArray.toList_eq, Op.bytesLess]
theorem lt_name_slots : lessS hName hSlots = true := by simp [lessS, hName, hSlots, ByteArray.toList_eq, Op.bytesLess]
theorem lt_name_taints : lessS hName hTaints = true := by simp [lessS, hName, hTaints, ByteArray.toList_eq, Op.bytesLess]
theorem lt_mem_slots : lessS hMem hSlots = true := by simp [lessS, hMem, hSlots, ByteArray.toList_eq, Op.bytesLess]
theorem lt_mem_taints : lessS hMem hTaints = true := by simp [lessS, hMem, hTaints, ByteArray.toList_eq, Op.bytesLess]
theorem lt_labels_slots : lessS hLabels hSlots = true := by simp [lessS, hLabels, hSlots, ByteArray.toList_eq, Op.bytesLess]
theorem lt_labels_taints : lessS hLabels hTaints = true := by simp [lessS, hLabels, hTaints, ByteArray.toList_eq, Op.bytesLess]
theorem lt_kind_slots : lessS hKind hSlots = true := by simp [lessS, hKind, hSlots, ByteArray.toList_eq, Op.bytesLess]
theorem lt_kind_taints : lessS hKind hTaints = true := by simp [lessS, hKind, hTaints, ByteArray.toList_eq, Op.bytesLess]
theorem lt_cpu_slots : lessS hCpu hSlots = true := by simp [lessS, hCpu, hSlots, ByteArray.toList_eq, Op.bytesLess]
theorem lt_cpu_taints : lessS hCpu hTaints = true := by simp [lessS, hCpu, hTaints, ByteArray.toList_eq, Op.bytesLess]
theorem head_lt_slots (l : List Label) : ∀ x ∈ headK l, lessS x hSlots = true := by
  intro x hx
  unfold headK at hx
  simp at hx
  rcases hx with rfl | rfl | h | rfl | rfl
  · exact lt_cpu_slots
  · exact lt_kind_slots
  · unfold optK at h
    split at h
    · simp at h; subst h; exact lt_labels_slots
    · cases h
  · exact lt_mem_slots
  · exact lt_name_slots
theorem head_lt_taints (l : List Label) : ∀ x ∈ headK l, lessS x hTaints = true := by
  intro x hx
  unfold headK at hx
  simp at hx
  rcases hx with rfl | rfl | h | rfl | rfl
  · exact lt_cpu_taints
  · exact lt_kind_taints
  · unfold optK at h
    split at h
    · simp at h; subst h; exact lt_labels_taints
    · cases h
  · exact lt_mem_taints
  · exact lt_name_taints
theorem optK_lt (b : Bool) {k key : ByteArray} (h : lessS k key = true) : ∀ x ∈ optK b k, lessS x key = true := by
  intro x hx
  unfold optK at hx
  split at hx
  · simp at hx; subst hx; exact h
  · cases hx
set_option maxHeartbeats 8000000 in
set_option maxRecDepth 20000 in
theorem c_spec_HostTree (n : Nat) (d : Host) (cs : List Value) (w : World) (lo : Nat) (hh : C_Host lo w.heap.size w d cs) :
    Calls Tryz.prog 6 #[.agg cs.toArray] w fun e w' => ∃ cs', e = .returned (.agg cs'.toArray) ∧ OwnT (n + 4) (fun b => w.heap.size ≤ b ∧ b < w'.heap.size) w' (hostT d) cs' ∧ Below w.heap.size w w' := by
  obtain ⟨i0, hi, hz0, hz1, hz2⟩ := info_parts (show (Tryz.prog.info? 30).map (fun i => (i.zero, i.size, i.bytes)) = some (some (.agg #[.int .i64 0, .bool false, .int .i64 0, .string ⟨#[]⟩, .slice none 0 0, .slice none 0 0]), 6, 88) from by kernel_rfl)
  have HC := Lib.hid hh
  obtain ⟨v1, v5, rfl, a0, a1, a2, a3, a4, a5⟩ := hh
  obtain ⟨A1, c1, rfl⟩ := a1.form
  obtain ⟨A5, c5, rfl⟩ := a5.form
  have HA := Lib.hid (And.intro a0 (And.intro a1 (And.intro a2 (And.intro a3 (And.intro a4 a5)))))
  clear a0 a1 a2 a3 a4 a5
  have Hhd := Lib.hid (head_ok d.labels)
  rcases ho : hostB d with _ | _
  · have HT := Lib.hid (show hostT d = tree0 by unfold hostT; rw [if_neg (by rw [ho]; decide)])
    go_enter Tryz.func6, Tryz.ntmps6
    go_wp2_with fail
    refine (c_spec_HostOk d [.string d.name, .slice A1 d.labels.length c1, .int .i64 d.cpu, .int .i64 d.mem, .int .i64 d.slots, .slice A5 d.taints.length c5] _ lo (C_Host.now HC.out bel)).mono ?_
    rintro e w1 ⟨rfl, hb⟩
    rw [ho]
    have Z := (hb.block (w.heap.size + 1) (by simp)).trans (heap_at (by simp))
    have hl := row_lt Z
    obtain ⟨x0, x1, x2, x3, x4, x5, xf⟩ := row6 Z
    have Bw : Below w.heap.size w w1 := Below.trans bel (hb.mono (by simp; omega))
    clear Z hb
    go_wp2_with fail
    exact bodyPost_ret (v := .agg #[.int .i64 0, .bool false, .int .i64 0, .string ⟨#[]⟩, .slice none 0 0, .slice none 0 0]) (by simp only [results, Tryz.results6]; go_simp) rfl (tree_fin0 (n := n + 2) HT.out (Bw.trans (Aside.below (S := fun b => b = w.heap.size + 1) (by repeat (first | (with_reducible exact Aside.refl _ _) | ((with_reducible refine aside_set ?_ ?_); (focus (simp; done))) | (with_reducible refine aside_alloc ?_))) Bw.size (fun i hi => by omega))))
  · have HT := Lib.hid (show hostT d = ⟨6, false, 0, ⟨#[]⟩, hostKs d, hostTs d⟩ by unfold hostT; rw [if_pos ho])
    have Hho := Lib.hid ho
    go_enter Tryz.func6, Tryz.ntmps6
    go_wp2_with fail
    refine (c_spec_HostOk d [.string d.name, .slice A1 d.labels.length c1, .int .i64 d.cpu, .int .i64 d.mem, .int .i64 d.slots, .slice A5 d.taints.length c5] _ lo (C_Host.now HC.out bel)).mono ?_
    rintro e w1 ⟨rfl, hb⟩
    rw [ho]
    have S1 : w1.heap[w.heap.size]? = some (.cells #[.string d.name, .slice A1 d.labels.length c1, .int .i64 d.cpu, .int .i64 d.mem, .int .i64 d.slots, .slice A5 d.taints.length c5] 35 (0, 0)) := (hb.block w.heap.size (by simp; omega)).trans ((Below.heap_alloc _ _ _ (by simp)).trans (heap_at (by simp)))
    have S2 : w1.heap[w.heap.size + 1]? = some (.cells #[.int .i64 0, .bool false, .int .i64 0, .string ⟨#[]⟩, .slice none 0 0, .slice none 0 0] 30 (0, 0)) := (hb.block (w.heap.size + 1) (by simp)).trans (heap_at (by simp))
    have Bw : Below w.heap.size w w1 := Below.trans bel (hb.mono (by simp; omega))
    have hz := hb.size
    simp at hz
    obtain ⟨x0, x1, x2, x3, x4, x5, xf⟩ := row6x S1
    have l1 := row_lt S1
    have R1 := Lib.hid S1
    have R2 := Lib.hid S2
    have HB1 := Lib.hid Bw
    clear S1 S2 hb Bw ho
    go_wp2_with fail
    refine (c_spec_l20Head (n + 1) ⟨#[104, 111, 115, 116]⟩ d.name d.labels (.slice A1 d.labels.length c1) d.cpu d.mem _ lo (by decide) HA.out.1 (HA.out.2.1.keep (same_below HB1.out) (Nat.le_refl _) HB1.out.size) HA.out.2.2.1 HA.out.2.2.2.1).mono ?_
    rintro e w2 ⟨vk, vl, rfl, hg, hb⟩
    obtain ⟨A8, c8, A9, c9, rfl, rfl⟩ := hg.form
    have S1 := (hb.block w.heap.size (by omega)).trans R1.out
    have S2 := (hb.block (w.heap.size + 1) (by omega)).trans R2.out
    have HB2 := Lib.hid (HB1.out.trans (hb.mono HB1.out.size))
    have hz2 := Nat.le_trans hz hb.size
    have Hg := Lib.hid hg
    clear x0 x1 x2 x3 x4 x5 xf l1 hg hb
    obtain ⟨x0, x1, x2, x3, x4, x5, xf⟩ := row6x S1
    have l1 := row_lt S1
    have Q1 := Lib.hid S1
    have Q2 := Lib.hid S2
    clear S1 S2
    go_upto_if 21 with fail
    obtain ⟨tb, htb⟩ : ∃ t, t = w2.heap.size := ⟨_, rfl⟩
    obtain ⟨w3, hW⟩ : ∃ x, x = w2.alloc (.cells #[.int .i64 6, .bool false, .int .i64 0, .string ⟨#[]⟩, .slice A8 (headK d.labels).length c8, .slice A9 (headT ⟨#[104, 111, 115, 116]⟩ d.name d.labels d.cpu d.mem).length c9] 30) := ⟨_, rfl⟩
    rw [← hW, ← htb]
    have hb3 : Below w2.heap.size w2 w3 := by rw [hW]; exact bel
    have HR3 := Lib.hid ((hb3.block _ l1).trans Q1.out)
    have HZ3 := Lib.hid ((hb3.block _ (row_lt Q2.out)).trans Q2.out)
    have HB3 := Lib.hid (HB2.out.trans (hb3.mono HB2.out.size))
    have HG3 := Lib.hid (show GMap (n + 3) (w.heap.size + 2) tb w3 (headK d.labels) (headT ⟨#[104, 111, 115, 116]⟩ d.name d.labels d.cpu d.mem) from by
      refine ⟨_, _, by rw [hW, htb]; exact heap_at rfl, ?_, fun e => by have := (Hg.out.lt.1 _ e).2; omega, fun e => by have := (Hg.out.lt.2 _ e).2; omega⟩
      exact ((Hg.out.box tb (.inl (by omega))).carry hb3.size (fun q _ hq => hb3.block q hq)).less hz)
    have hzt : w.heap.size + 2 ≤ tb := by omega
    have hz3 : tb < w3.heap.size := by rw [hW, htb]; simp
    clear hW htb hb3 x0 x1 x2 x3 x4 x5 xf l1 hz hz2
    obtain ⟨x0, x1, x2, x3, x4, x5, xf⟩ := row6x HR3.out
    have l1 := row_lt HR3.out
    go_cut [] from 21 to 26 (fun wx => GMap (n + 3) (w.heap.size + 2) tb wx (headK d.labels ++ optK (d.slots != 20) hSlots) (headT ⟨#[104, 111, 115, 116]⟩ d.name d.labels d.cpu d.mem ++ optD (d.slots != 20) (intD d.slots)) ∧ wx.heap[w.heap.size]? = some (.cells #[.string d.name, .slice A1 d.labels.length c1, .int .i64 d.cpu, .int .i64 d.mem, .int .i64 d.slots, .slice A5 d.taints.length c5] 35 (0, 0)) ∧ wx.heap[w.heap.size + 1]? = some (.cells #[.int .i64 0, .bool false, .int .i64 0, .string ⟨#[]⟩, .slice none 0 0, .slice none 0 0] 30 (0, 0)) ∧ Below w.heap.size w wx ∧ tb < wx.heap.size)
    case first =>
      rcases hc : (d.slots != 20) with _ | _
      · have hc2 : (d.slots == 20) = true := by simpa using hc
        have HE := Lib.hid hc
        go_wp2_with fail
        go_meet
        rw [HE.out]
        exact ⟨by simpa [optK, optD] using HG3.out, HR3.out, HZ3.out, HB3.out, hz3⟩
      · have hc2 : (d.slots == 20) = false := by simpa using hc
        have HE := Lib.hid hc
        have HRR := Lib.hid HR3.out
        have HZZ := Lib.hid HZ3.out
        obtain ⟨B4, B5, n4, d4, n5, d5, hrow, hgr, -, -⟩ := HG3.out.open
        obtain ⟨y0, y1, y2, y3, y4, y5, yf⟩ := row6 hrow
        have l2 := row_lt hrow
        have lz := row_lt HZ3.out
        have HRow := Lib.hid hrow
        have HGr := Lib.hid hgr
        clear hrow hgr
        go_wp2_with fail
        go_region_law (first | (go_simp; go_at_call 25; refine (c_spec_IntTree d.slots _).mono ?_; rintro e wa ⟨rfl, hba⟩; have hbwa : Below w3.heap.size w3 wa := bel; obtain ⟨y0, y1, y2, y3, y4, y5, yf⟩ := row6 ((hbwa.block tb l2).trans HRow.out); obtain ⟨x0, x1, x2, x3, x4, x5, xf⟩ := row6x ((hbwa.block w.heap.size l1).trans HRR.out); have hsza := Nat.lt_of_lt_of_le l2 hbwa.size; have hszb := Nat.lt_of_lt_of_le l1 hbwa.size) | (go_simp; go_at_call 24; refine (c_l20PutG (n + 3) (headK d.labels) (headT ⟨#[104, 111, 115, 116]⟩ d.name d.labels d.cpu d.mem) hSlots (intD d.slots) (intC d.slots) _ _ (w.heap.size + 2) (some tb) w3 _ HGr.out bel (own_intD HA.out.2.2.2.2.1) (fun q e => by injection e with e; omega) (by omega) (by have := headK_len d.labels; have := headKT ⟨#[104, 111, 115, 116]⟩ d.name d.labels d.cpu d.mem; (try simp); omega) (by intro x hx; exact Hhd.out x hx) (by intro x hx; exact head_lt_slots _ x hx) (by have := headK_len d.labels; have := headKT ⟨#[104, 111, 115, 116]⟩ d.name d.labels d.cpu d.mem; (try simp); omega)).mono ?_; rintro e wB ⟨E4, E5, m4, g4, m5, g5, rfl, hg, e1, e2, hbB⟩; have hBW : Below w3.heap.size w3 wB := bel; have T1 := (hBW.block tb l2).trans HRow.out; have Z1 := (hBW.block (w.heap.size + 1) lz).trans HZZ.out; have U1 := (hBW.block w.heap.size l1).trans HRR.out; obtain ⟨y0, y1, y2, y3, y4, y5, yf⟩ := row6 T1; have l3 := row_lt T1; have lz2 := row_lt Z1))
        all_goals
          have n1 : (Value.slice E4 m4 g4).ownBlock ≠ some tb := fun e => by have := e1 _ e; (try simp at this); omega
          have n2 : (Value.slice E5 m5 g5).ownBlock ≠ some tb := fun e => by have := e2 _ e; (try simp at this); omega
          have HT1 := Lib.hid T1
          have HZ1 := Lib.hid Z1
          have HU1 := Lib.hid U1
          have Hg9 := Lib.hid hg
          have HbW := Lib.hid hBW
          clear y0 y1 y2 y3 y4 y5 yf x0 x1 x2 x3 x4 x5 xf T1 Z1 U1 hg e1 e2
          (try go_wp2_with fail)
          go_meet
          have hF : Aside (fun b => b = tb) wB _ := set6_aside wB tb (.slice E4 m4 g4) (.slice E5 m5 g5)
          (try rw [HE.out])
          exact ⟨GMap.of_put Hg9.out hF (six_set _ _ _ _ _ _ HT1.out) n1 n2, (hF.block w.heap.size (by omega) (by omega)).trans HU1.out, (hF.block (w.heap.size + 1) lz2 (by omega)).trans HZ1.out, (HB3.out.trans (HbW.out.mono HB3.out.size)).trans (hF.below (HB3.out.trans (HbW.out.mono HB3.out.size)).size (fun i hi => by omega)), Nat.lt_of_lt_of_le (Nat.lt_of_lt_of_le hz3 HbW.out.size) hF.size⟩
    case rest =>
      obtain ⟨hG, hR, hZ, hB, hz⟩ := hcut
      obtain ⟨w4, hwN⟩ : ∃ x, x = wc := ⟨_, rfl⟩
      rw [← hwN] at hG hR hZ hB hz ⊢
      clear hwN
      have HG4 := Lib.hid hG
      have HR4 := Lib.hid hR
      have HZ4 := Lib.hid hZ
      have HB4 := Lib.hid hB
      have hz4 := hz
      clear hG hR hZ hB hz x0 x1 x2 x3 x4 x5 xf l1
      obtain ⟨x0, x1, x2, x3, x4, x5, xf⟩ := row6x HR4.out
      have l1 := row_lt HR4.out
      go_upto_if 30 with fail
      go_cut [4, 5] from 30 to 51 (fun _ _ wx => GMap (n + 3) (w.heap.size + 2) tb wx (headK d.labels ++ optK (d.slots != 20) hSlots ++ optK (!d.taints.isEmpty) hTaints) (headT ⟨#[104, 111, 115, 116]⟩ d.name d.labels d.cpu d.mem ++ optD (d.slots != 20) (intD d.slots) ++ optD (!d.taints.isEmpty) (lstD (d.taints.map taintTD))) ∧ wx.heap[w.heap.size]? = some (.cells #[.string d.name, .slice A1 d.labels.length c1, .int .i64 d.cpu, .int .i64 d.mem, .int .i64 d.slots, .slice A5 d.taints.length c5] 35 (0, 0)) ∧ wx.heap[w.heap.size + 1]? = some (.cells #[.int .i64 0, .bool false, .int .i64 0, .string ⟨#[]⟩, .slice none 0 0, .slice none 0 0] 30 (0, 0)) ∧ Below w.heap.size w wx ∧ tb < wx.heap.size)
      case first =>
        by_cases h0 : d.taints.length = 0
        · have HE := Lib.hid (emp_no h0)
          have hl0 : ¬ (0 : Int) < d.taints.length := by omega
          clear h0
          go_wp2_with fail
          go_meet
          rw [HE.out]
          exact ⟨by simpa [optK, optD] using HG4.out, HR4.out, HZ4.out, HB4.out, hz4⟩
        · have HE := Lib.hid (emp_yes h0)
          have hl0 : (0 : Int) < d.taints.length := by omega
          have hl8 : decide (0 < d.taints.length) = true := decide_eq_true (by omega)
          clear h0
          simp only [hl8]
          have hfew : d.taints.length ≤ 4 := (by have h9 := Hho.out; unfold hostB taintsB at h9; simp only [Bool.and_eq_true, decide_eq_true_eq] at h9; omega)
          have HSl := Lib.hid HA.out.2.2.2.2.2
          have hA9 := HA.out.2.2.2.2.2
          obtain ⟨A9, c9, hv9, hlc, hcc, hA9⟩ := hA9
          simp only [Value.slice.injEq, true_and] at hv9
          obtain ⟨rfl, rfl⟩ := hv9
          go_wp2_with fail
          go_loopw [4, 5] (fun y i wr => ∃ (k : Nat) (K : Option Addr) (c9 : Nat), k ≤ d.taints.length ∧ i = .int .i64 k ∧ y = .slice K k c9 ∧ GrowK (n + 2) w4.heap.size wr.heap.size wr ((d.taints.take k).map taintTD) (.slice K k c9) ∧ Below w4.heap.size w4 wr) (fun _ i _ => d.taints.length - (intOf i).toNat)
          case atStart => exact ⟨0, some ⟨w4.heap.size, 0, none⟩, 0, Nat.zero_le _, rfl, rfl, GrowK.empty rfl (Nat.le_refl _), bel⟩
          case round =>
            obtain ⟨k, K, ck, hk, rfl, rfl, hgk, hbr⟩ := hrel
            have Hgk := Lib.hid hgk
            have HBr := Lib.hid hbr
            have hbs := hbr.size
            have hbw : Below w.heap.size w wr := HB4.out.trans (hbr.mono HB4.out.size)
            have HBw := Lib.hid hbw
            have RR := (hbr.block _ l1).trans HR4.out
            have ZZ := (hbr.block _ (row_lt HZ4.out)).trans HZ4.out
            have HRR := Lib.hid RR
            have HZZ := Lib.hid ZZ
            clear x0 x1 x2 x3 x4 x5 xf
            obtain ⟨x0, x1, x2, x3, x4, x5, xf⟩ := row6x RR
            have l5 := row_lt RR
            have HG9 := Lib.hid (HG4.out.carry hbr)
            by_cases hlt : k < d.taints.length
            · obtain ⟨b, o, rfl, -, hb2, hcell⟩ := hA9 (by omega)
              obtain ⟨x, hd⟩ := exists_at hlt
              obtain ⟨es, -, hcs, hC⟩ := hcell k x hd
              obtain ⟨rfl, q1, q2, -⟩ := hC
              have HX := Lib.hid (And.intro q1 q2)
              have hc0 := (hbw.cell (p := ⟨b, o + k * 3 + 0, none⟩) (by simp; omega)).trans (hcs 0 (by omega))
              have hc1 := (hbw.cell (p := ⟨b, o + k * 3 + 1, none⟩) (by simp; omega)).trans (hcs 1 (by omega))
              have hc2 := (hbw.cell (p := ⟨b, o + k * 3 + 2, none⟩) (by simp; omega)).trans (hcs 2 (by omega))
              simp at hc0 hc1 hc2
              have hbl : b < wr.heap.size := Nat.lt_of_lt_of_le hb2 hbw.size
              have hk0 : (0 : Int) ≤ k := by omega
              have hk1 : (k : Int) < d.taints.length := by omega
              have Htk := Lib.hid (show (d.taints.take (k + 1)).map taintTD = (d.taints.take k).map taintTD ++ [taintTD x] by rw [List.take_add_one, hd]; simp)
              have Hlen := Lib.hid (show ((d.taints.take k).map taintTD).length = k by rw [List.length_map, List.length_take]; omega)
              clear hcs hcell hA9 hd hgk hbr hbw RR ZZ q1 q2
              go_wp2_with fail
              have HBR := HBw.out
              refine (c_spec_TaintTree (n + 0) x.key x.value x.effect _ HX.out.1 HX.out.2).mono ?_
              rintro e w8 ⟨cs8, rfl, ho8, hb8⟩
              have ho9 := ho8
              obtain ⟨f4, e4, f5, e5, rfl, -⟩ := ho9.flat
              clear ho9 HBR
              have hs8 := hb8.size
              obtain ⟨ess, F, q1, q2, q3, q4, q5, q6, q7⟩ := (Hgk.out.carry (Nat.le_refl _) (fun g _ hg => hb8.block g hg) : GrowK (n + 2) w4.heap.size wr.heap.size w8 _ _)
              have E3 := Lib.hid ((show w8.ownsRow w4.heap.size 30 6 _ k ess.flatten by rw [← Hlen.out]; exact q3).alloc (.cells #[.int .i64 (taintTD x).kind, .bool (taintTD x).flag, .int .i64 (taintTD x).num, .string (taintTD x).text, .slice f4 (taintTD x).keys.length e4, .slice f5 (taintTD x).kids.length e5] 30))
              have Hone := Lib.hid (ho8.one)
              have RR8 := Lib.hid ((hb8.block _ l5).trans HRR.out)
              clear q3 hc0 hc1 hc2 x0 x1 x2 x3 x4 x5 xf
              go_wp2_with (at_builtin; refine wpList_append_lies _ rfl _ _ 28 rfl w4.heap.size 30 i0 (.agg #[.int .i64 0, .bool false, .int .i64 0, .string ⟨#[]⟩, .slice none 0 0, .slice none 0 0]) 6 88 Tryz.underlying28 hi hz0 hz1 hz2 rfl (by decide) _ k ess.flatten rfl E3.out ⟨w8.heap.size, 0, none⟩ 1 1 [.int .i64 (taintTD x).kind, .bool (taintTD x).flag, .int .i64 (taintTD x).num, .string (taintTD x).text, .slice f4 (taintTD x).keys.length e4, .slice f5 (taintTD x).kids.length e5] rfl rfl (World.news_of_block (heap_alloc_new w8 _)) Hone.out (by decide) (by unfold maxLen; omega) (by omega) (by simp; omega) _ rfl ?_)
              intro g cap w9 hown hgrow hat hlt2
              have Hp := Lib.hid (GrowK.push (hi := wr.heap.size) (S := fun b => wr.heap.size ≤ b ∧ b < w8.heap.size) k Hlen.out (by simp; omega) (ho8.carry (fun b hb => Below.heap_alloc _ _ b hb.2) (fun b hb => by simpa using hb)) (fun b hb => by simp; omega) hbs ess F q1 q2 q4 q5 q6
                (fun i d' es' h1 h2 => (q7 i d' es' h1 h2).carry (fun b hb => Below.heap_alloc _ _ b (by have := (q5 i b hb).2.1; omega)) (fun _ h => h)) hown hgrow (hat.imp id (fun h => by (try rw [h]); (try simp at h); (try simp); try omega)) hlt2)
              have Hb9 := Lib.hid (Below.grown (Below.alloc (HBr.out.trans (hb8.mono hbs)) (by omega) (.cells #[.int .i64 (taintTD x).kind, .bool (taintTD x).flag, .int .i64 (taintTD x).num, .string (taintTD x).text, .slice f4 (taintTD x).keys.length e4, .slice f5 (taintTD x).kids.length e5] 30)) hgrow (by simp; omega) (fun q hq => by have := E3.out.lt q hq; omega))
              clear hgrow hat hown q5 q6 q7 q1 q2 q4 ho8
              go_wp2_with fail
              go_roundw
              case rel => exact ⟨k + 1, _, _, by omega, by go_num, rfl, by rw [Htk.out]; exact Hp.out, Hb9.out⟩
              case measure => simp [intOf]; omega
            · obtain rfl : k = d.taints.length := by omega
              rw [List.take_length] at hgk
              have CT := Lib.hid (grow_list hgk (Nat.le_refl _))
              have Hnt := Lib.hid (show nTree (n + 3) (lstD (d.taints.map taintTD)) ≤ 1048576 from nTree_lst (n := n + 2) (B := 400) (by intro t ht; obtain ⟨x, -, rfl⟩ := List.mem_map.1 ht; exact nTree_taint (n + 0) x) (by rw [List.length_map]; exact hfew) (by decide))
              clear hA9 hgk hbr RR ZZ
              obtain ⟨B4, B5, n4, d4, n5, d5, hrow, hgr, -, -⟩ := HG9.out.open
              obtain ⟨y0, y1, y2, y3, y4, y5, yf⟩ := row6 hrow
              clear l1
              have l1 := l5
              have l2 := row_lt hrow
              have lz := row_lt HZZ.out
              have HRow := Lib.hid hrow
              have HGr := Lib.hid hgr
              clear hrow hgr hbw
              have hzw := Nat.lt_of_lt_of_le hz4 hbs
              have hbase : w.heap.size + 2 ≤ wr.heap.size := by omega
              go_wp2_with fail
              go_region_law (first | (go_simp; go_at_call 27; refine (c_ListTreeD (n + 2) (d.taints.map taintTD) _ _ _ _ _ (C_Tree.now CT.out bel) Hnt.out).mono ?_; rintro e wa ⟨cq, rfl, hOq, hba⟩; have hbwa : Below wr.heap.size wr wa := bel; obtain ⟨y0, y1, y2, y3, y4, y5, yf⟩ := row6 ((hbwa.block tb l2).trans HRow.out); have hsza := Nat.lt_of_lt_of_le l2 hbwa.size; have hszb := Nat.lt_of_lt_of_le l1 hbwa.size) | (go_simp; go_at_call 24; refine (c_l20PutG (n + 3) (headK d.labels ++ optK (d.slots != 20) hSlots) (headT ⟨#[104, 111, 115, 116]⟩ d.name d.labels d.cpu d.mem ++ optD (d.slots != 20) (intD d.slots)) hTaints (lstD (d.taints.map taintTD)) cq _ _ (w.heap.size + 2) (some tb) wr _ HGr.out bel (hOq.carry (fun b hb => rfl) (fun b hb => hb)) (fun q e => by injection e with e; omega) (by omega) (by have := headK_len d.labels; have := headKT ⟨#[104, 111, 115, 116]⟩ d.name d.labels d.cpu d.mem; have := optK_len (d.slots != 20) hSlots; have := optKD (d.slots != 20) hSlots (intD d.slots); (try simp); omega) (by intro x hx; simp only [List.mem_append] at hx; rcases hx with hx | hx; exact Hhd.out x hx; exact optK_ok _ (by decide) x hx) (by intro x hx; simp only [List.mem_append] at hx; rcases hx with hx | hx; exact head_lt_taints _ x hx; exact optK_lt _ lt_slots_taints x hx) (by have := headK_len d.labels; have := headKT ⟨#[104, 111, 115, 116]⟩ d.name d.labels d.cpu d.mem; have := optK_len (d.slots != 20) hSlots; have := optKD (d.slots != 20) hSlots (intD d.slots); (try simp); omega)).mono ?_; rintro e wB ⟨E4, E5, m4, g4, m5, g5, rfl, hg, e1, e2, hbB⟩; have hBW : Below wr.heap.size wr wB := bel; have T1 := (hBW.block tb l2).trans HRow.out; have Z1 := (hBW.block (w.heap.size + 1) lz).trans HZZ.out; have U1 := (hBW.block w.heap.size l1).trans HRR.out; obtain ⟨y0, y1, y2, y3, y4, y5, yf⟩ := row6 T1; have l3 := row_lt T1; have lz2 := row_lt Z1))
              all_goals
                have n1 : (Value.slice E4 m4 g4).ownBlock ≠ some tb := fun e => by have := e1 _ e; (try simp at this); omega
                have n2 : (Value.slice E5 m5 g5).ownBlock ≠ some tb := fun e => by have := e2 _ e; (try simp at this); omega
                have HT1 := Lib.hid T1
                have HZ1 := Lib.hid Z1
                have HU1 := Lib.hid U1
                have Hg9 := Lib.hid hg
                have HbW := Lib.hid hBW
                clear y0 y1 y2 y3 y4 y5 yf x0 x1 x2 x3 x4 x5 xf T1 Z1 U1 hg e1 e2
                (try go_wp2_with fail)
                go_meet
                have hF : Aside (fun b => b = tb) wB _ := set6_aside wB tb (.slice E4 m4 g4) (.slice E5 m5 g5)
                (try rw [HE.out])
                exact ⟨GMap.of_put Hg9.out hF (six_set _ _ _ _ _ _ HT1.out) n1 n2, (hF.block w.heap.size (by omega) (by omega)).trans HU1.out, (hF.block (w.heap.size + 1) lz2 (by omega)).trans HZ1.out, (HBw.out.trans (HbW.out.mono HBw.out.size)).trans (hF.below (HBw.out.trans (HbW.out.mono HBw.out.size)).size (fun i hi => by omega)), Nat.lt_of_lt_of_le (Nat.lt_of_lt_of_le hzw HbW.out.size) hF.size⟩
      case rest =>
        obtain ⟨hG, hR, hZ, hB, hz⟩ := hcut
        obtain ⟨w5, hwN⟩ : ∃ x, x = wc := ⟨_, rfl⟩
        rw [← hwN] at hG hR hZ hB hz ⊢
        clear hwN
        have HG5 := Lib.hid hG
        have HR5 := Lib.hid hR
        have HZ5 := Lib.hid hZ
        have HB5 := Lib.hid hB
        have hz5 := hz
        clear hG hR hZ hB hz x0 x1 x2 x3 x4 x5 xf l1
        obtain ⟨E4, E5, m4, d4, m5, d5, hrow, hgr, -, -⟩ := HG5.out.open
        obtain ⟨y0, y1, y2, y3, y4, y5, yf⟩ := row6 hrow
        obtain ⟨z0, z1, z2, z3, z4, z5, zf⟩ := row6 HZ5.out
        have l2 := row_lt hrow
        have l3 := row_lt HZ5.out
        have HGr := Lib.hid hgr
        clear hrow hgr
        go_wp2_with fail
        exact bodyPost_ret (v := .agg #[.int .i64 6, .bool false, .int .i64 0, .string ⟨#[]⟩, .slice E4 m4 d4, .slice E5 m5 d5]) (by simp only [results, Tryz.results6]; go_simp) rfl (tree_fin1 (n := n + 3) (base := w.heap.size + 2) (B := w.heap.size) (b0 := w.heap.size + 1) (wN := w5) HT.out HGr.out (by omega) (by omega) (by repeat (first | (with_reducible exact Aside.refl _ _) | ((with_reducible refine aside_set ?_ ?_); (focus (simp; done))) | (with_reducible refine aside_alloc ?_))) HB5.out (by omega) l3 (hostKs_ok d))
end Go.Proofs.YteecgklmdfockaaGreatDoor
namespace Go.Proofs.YteecgklmdfockaaGreatDoor
open Go.RowKit Go.Lib
def MkHost (x : Int) (d : Host) : Prop := MkLabels (x) d.labels ∧ MkTaints (x + 2 * d.labels.length) d.taints
def cntHost (d : Host) : Nat := 2 * d.labels.length + 3 * d.taints.length
set_option maxHeartbeats 2000000 in
set_option maxRecDepth 10000 in
theorem c_laws_toHostO (d : Host) (cs : List Value) (w : World) (lo : Nat) (h : C_Host lo w.heap.size w d cs) (hn : nHost d ≤ 1048576) :
    Calls Tryz.prog 7 #[.agg cs.toArray] w fun e w' => ∃ cs', e = .returned (.agg cs'.toArray) ∧ OwnHost (fun b => w.heap.size ≤ b ∧ b < w'.heap.size) w' d cs' ∧ Below w.heap.size w w' := by
  obtain ⟨v1, v5, rfl, a0, a1, a2, a3, a4, a5⟩ := h
  obtain ⟨A1, c1, rfl⟩ := a1.form
  obtain ⟨A5, c5, rfl⟩ := a5.form
  have H1 := Lib.hid a1
  have H5 := Lib.hid a5
  clear a1 a5
  unfold nHost at hn
  have m1 : d.labels.length ≤ 1048576 := by have := nL_def nLabel d.labels; omega
  have m5 : d.taints.length ≤ 1048576 := by have := nL_def nTaint d.taints; omega
  clear hn
  go_enter Tryz.func7, Tryz.ntmps7
  go_wp2_with fail
  refine (c_laws_toLabelSO d.labels _ _ _ (Sl_Label.now H1.out bel) m1).mono ?_
  rintro e w1 ⟨X1, x1, rfl, R1, hb⟩
  have z_w1 := hb.size
  (try simp at z_w1)
  have K_w1 := hb
  clear hb
  have SP : w1.heap[w.heap.size]? = some (.cells #[.string d.name, .slice A1 d.labels.length c1, .int .i64 d.cpu, .int .i64 d.mem, .int .i64 d.slots, .slice A5 d.taints.length c5] 25 (0, 0)) := (K_w1.block (w.heap.size) (by first | omega | (simp; omega) | (simp; done))).trans (by repeat (first | ((with_reducible refine heap_at ?_); (focus (simp; done))) | (with_reducible apply set6_0) | (with_reducible apply set6_1) | (with_reducible apply set6_2) | (with_reducible apply set6_3) | (with_reducible apply set6_4) | (with_reducible apply set6_5) | ((with_reducible refine (Below.heap_setCell _ _ _ _ ?_).trans ?_); focus (first | omega | (simp; omega) | (simp; done))) | ((with_reducible refine (Below.heap_alloc _ _ _ ?_).trans ?_); focus (first | omega | (simp; omega) | (simp; done)))))
  have SQ : w1.heap[w.heap.size + 1]? = some (.cells #[.string ⟨#[]⟩, .slice none 0 0, .int .i64 0, .int .i64 0, .int .i64 0, .slice none 0 0] 35 (0, 0)) := (K_w1.block (w.heap.size + 1) (by first | omega | (simp; omega) | (simp; done))).trans (by repeat (first | ((with_reducible refine heap_at ?_); (focus (simp; done))) | (with_reducible apply set6_0) | (with_reducible apply set6_1) | (with_reducible apply set6_2) | (with_reducible apply set6_3) | (with_reducible apply set6_4) | (with_reducible apply set6_5) | ((with_reducible refine (Below.heap_setCell _ _ _ _ ?_).trans ?_); focus (first | omega | (simp; omega) | (simp; done))) | ((with_reducible refine (Below.heap_alloc _ _ _ ?_).trans ?_); focus (first | omega | (simp; omega) | (simp; done)))))
  have SO : w1.heap[w.heap.size + 1 + 1]? = some (.cells #[.string d.name, .slice none 0 0, .int .i64 0, .int .i64 0, .int .i64 0, .slice none 0 0] 35 (0, 0)) := (K_w1.block (w.heap.size + 1 + 1) (by first | omega | (simp; omega) | (simp; done))).trans (by repeat (first | ((with_reducible refine heap_at ?_); (focus (simp; done))) | (with_reducible apply set6_0) | (with_reducible apply set6_1) | (with_reducible apply set6_2) | (with_reducible apply set6_3) | (with_reducible apply set6_4) | (with_reducible apply set6_5) | ((with_reducible refine (Below.heap_setCell _ _ _ _ ?_).trans ?_); focus (first | omega | (simp; omega) | (simp; done))) | ((with_reducible refine (Below.heap_alloc _ _ _ ?_).trans ?_); focus (first | omega | (simp; omega) | (simp; done)))))
  obtain ⟨xP0, xP1, xP2, xP3, xP4, xP5, xPf⟩ := row6x SP
  have lP := row_lt SP
  have mP := Nat.lt_succ_of_lt lP
  have nP := Nat.lt_succ_of_lt mP
  have RP := Lib.hid SP
  clear SP
  obtain ⟨xQ0, xQ1, xQ2, xQ3, xQ4, xQ5, xQf⟩ := row6x SQ
  have lQ := row_lt SQ
  have mQ := Nat.lt_succ_of_lt lQ
  have nQ := Nat.lt_succ_of_lt mQ
  have RQ := Lib.hid SQ
  clear SQ
  obtain ⟨xO0, xO1, xO2, xO3, xO4, xO5, xOf⟩ := row6x SO
  have lO := row_lt SO
  have mO := Nat.lt_succ_of_lt lO
  have nO := Nat.lt_succ_of_lt mO
  have RO := Lib.hid SO
  clear SO
  have V1 := Lib.hid (R1.carry (S' := fun b => w.heap.size + 3 ≤ b ∧ b < w1.heap.size) (fun _ _ => rfl) (fun b hb => ⟨by have := hb.1; (try simp at this); omega, hb.2⟩))
  clear R1
  go_wp2_with fail
  refine (c_laws_toTaintSO d.taints _ _ _ (Sl_Taint.now H5.out bel) m5).mono ?_
  rintro e w2 ⟨X5, x5, rfl, R5, hb⟩
  have z_w2 := hb.size
  (try simp at z_w2)
  have K_w2 := hb
  clear hb
  have SP : w2.heap[w.heap.size]? = some (.cells #[.string d.name, .slice A1 d.labels.length c1, .int .i64 d.cpu, .int .i64 d.mem, .int .i64 d.slots, .slice A5 d.taints.length c5] 25 (0, 0)) := (K_w2.block (w.heap.size) (by first | omega | (simp; omega) | (simp; done))).trans (by repeat (first | (exact RP.out) | ((with_reducible refine heap_at ?_); (focus (simp; done))) | (with_reducible apply set6_0) | (with_reducible apply set6_1) | (with_reducible apply set6_2) | (with_reducible apply set6_3) | (with_reducible apply set6_4) | (with_reducible apply set6_5) | ((with_reducible refine (Below.heap_setCell _ _ _ _ ?_).trans ?_); focus (first | omega | (simp; omega) | (simp; done))) | ((with_reducible refine (Below.heap_alloc _ _ _ ?_).trans ?_); focus (first | omega | (simp; omega) | (simp; done)))))
  have SQ : w2.heap[w.heap.size + 1]? = some (.cells #[.string ⟨#[]⟩, .slice none 0 0, .int .i64 0, .int .i64 0, .int .i64 0, .slice none 0 0] 35 (0, 0)) := (K_w2.block (w.heap.size + 1) (by first | omega | (simp; omega) | (simp; done))).trans (by repeat (first | (exact RQ.out) | ((with_reducible refine heap_at ?_); (focus (simp; done))) | (with_reducible apply set6_0) | (with_reducible apply set6_1) | (with_reducible apply set6_2) | (with_reducible apply set6_3) | (with_reducible apply set6_4) | (with_reducible apply set6_5) | ((with_reducible refine (Below.heap_setCell _ _ _ _ ?_).trans ?_); focus (first | omega | (simp; omega) | (simp; done))) | ((with_reducible refine (Below.heap_alloc _ _ _ ?_).trans ?_); focus (first | omega | (simp; omega) | (simp; done)))))
  have SO : w2.heap[w.heap.size + 1 + 1]? = some (.cells #[.string d.name, .slice X1 d.labels.length x1, .int .i64 d.cpu, .int .i64 d.mem, .int .i64 d.slots, .slice none 0 0] 35 (0, 0)) := (K_w2.block (w.heap.size + 1 + 1) (by first | omega | (simp; omega) | (simp; done))).trans (by repeat (first | (exact RO.out) | ((with_reducible refine heap_at ?_); (focus (simp; done))) | (with_reducible apply set6_0) | (with_reducible apply set6_1) | (with_reducible apply set6_2) | (with_reducible apply set6_3) | (with_reducible apply set6_4) | (with_reducible apply set6_5) | ((with_reducible refine (Below.heap_setCell _ _ _ _ ?_).trans ?_); focus (first | omega | (simp; omega) | (simp; done))) | ((with_reducible refine (Below.heap_alloc _ _ _ ?_).trans ?_); focus (first | omega | (simp; omega) | (simp; done)))))
  clear xP0 xP1 xP2 xP3 xP4 xP5 RP xPf lP mP nP
  clear xQ0 xQ1 xQ2 xQ3 xQ4 xQ5 RQ xQf lQ mQ nQ
  clear xO0 xO1 xO2 xO3 xO4 xO5 RO xOf lO mO nO
  obtain ⟨xP0, xP1, xP2, xP3, xP4, xP5, xPf⟩ := row6x SP
  have lP := row_lt SP
  have mP := Nat.lt_succ_of_lt lP
  have nP := Nat.lt_succ_of_lt mP
  have RP := Lib.hid SP
  clear SP
  obtain ⟨xQ0, xQ1, xQ2, xQ3, xQ4, xQ5, xQf⟩ := row6x SQ
  have lQ := row_lt SQ
  have mQ := Nat.lt_succ_of_lt lQ
  have nQ := Nat.lt_succ_of_lt mQ
  have RQ := Lib.hid SQ
  clear SQ
  obtain ⟨xO0, xO1, xO2, xO3, xO4, xO5, xOf⟩ := row6x SO
  have lO := row_lt SO
  have mO := Nat.lt_succ_of_lt lO
  have nO := Nat.lt_succ_of_lt mO
  have RO := Lib.hid SO
  clear SO
  have V5 := Lib.hid (R5.carry (S' := fun b => w1.heap.size ≤ b ∧ b < w2.heap.size) (fun _ _ => rfl) (fun b hb => ⟨by have := hb.1; (try simp at this); omega, hb.2⟩))
  clear R5
  go_wp2_with fail
  refine bodyPost_ret (v := .agg #[.string d.name, .slice X1 d.labels.length x1, .int .i64 d.cpu, .int .i64 d.mem, .int .i64 d.slots, .slice X5 d.taints.length x5]) (by simp only [results, Tryz.results7]; go_simp) rfl ?_
  refine ⟨[.string d.name, .slice X1 d.labels.length x1, .int .i64 d.cpu, .int .i64 d.mem, .int .i64 d.slots, .slice X5 d.taints.length x5], rfl, ?_, bel⟩
  exact ⟨_, _, _, _, rfl, a0, V1.out.carry (fun b hb => (by repeat (first | (with_reducible rfl) | ((with_reducible refine (Below.heap_setCell _ _ _ b ?_).trans ?_); focus (simp; omega)) | ((with_reducible refine (Below.heap_alloc _ _ b ?_).trans ?_); focus (simp; omega)) | ((with_reducible refine (Below.block (by assumption) b ?_).trans ?_); focus (simp; omega))))) (fun _ h => h), a2, a3, a4, V5.out.carry (fun b hb => (by repeat (first | (with_reducible rfl) | ((with_reducible refine (Below.heap_setCell _ _ _ b ?_).trans ?_); focus (simp; omega)) | ((with_reducible refine (Below.heap_alloc _ _ b ?_).trans ?_); focus (simp; omega)) | ((with_reducible refine (Below.block (by assumption) b ?_).trans ?_); focus (simp; omega))))) (fun _ h => h), fun b hb => ⟨⟨by omega, by first | omega | (simp; done) | (simp; omega)⟩, by omega⟩, fun b hb => ⟨by omega, by first | omega | (simp; done) | (simp; omega)⟩⟩
set_option maxHeartbeats 2000000 in
set_option maxRecDepth 10000 in
theorem c_laws_markHost (d : Host) (cs : List Value) (x : Int) (w : World) (S : Nat → Prop) (h : OwnHost S w d cs) (hSb : ∀ b, S b → b < w.heap.size) (h1 : 0 < x) (h2 : x + cntHost d ≤ 1152921504606846976) :
    Calls Tryz.prog 11 #[.agg cs.toArray, .int .i64 x] w fun e w' => ∃ d', e = .returned (.int .i64 (x + cntHost d)) ∧ cntHost d' = cntHost d ∧ OwnHost S w' d' cs ∧ MkHost x d' ∧ Aside S w w' := by
  obtain ⟨v1, v5, S1, S5, rfl, a0, a1, a2, a3, a4, a5, s1, s5⟩ := h
  have b1 := a1
  have b5 := a5
  unfold cntHost at h2
  have Hx := Lib.hid h2
  obtain ⟨A1, c1, rfl⟩ := b1.form
  have H1 := Lib.hid b1
  obtain ⟨A5, c5, rfl⟩ := b5.form
  have H5 := Lib.hid b5
  clear h2 b1 a1 b5 a5
  obtain ⟨y1, hy1⟩ : ∃ y : Int, y = x + 2 * d.labels.length := ⟨_, rfl⟩
  have HY1 := Lib.hid hy1
  have hp1 : 0 < y1 := by omega
  clear hy1
  go_enter Tryz.func11, Tryz.ntmps11
  go_wp2_with fail
  refine (c_laws_markLabelS d.labels _ _ _ _ (H1.out.carry (fun b hb => (Below.heap_alloc _ _ b (by have := hSb b (s1 b hb).1; first | omega | (simp; omega)))) (fun _ h => h)) (fun b hb => (by have := hSb b (s1 b hb).1; first | omega | (simp; omega))) h1 (by have := Hx.out; omega)).mono ?_
  rintro e w1 ⟨m1, rfl, l1, O1, M1, hb⟩
  rw [← HY1.out]
  have z_w1 := hb.size
  (try simp at z_w1)
  have K_w1 := hb
  clear hb
  have SP : w1.heap[w.heap.size]? = some (.cells #[.string d.name, .slice A1 d.labels.length c1, .int .i64 d.cpu, .int .i64 d.mem, .int .i64 d.slots, .slice A5 d.taints.length c5] 35 (0, 0)) := (K_w1.block (w.heap.size) (by first | omega | (simp; done) | (simp; omega)) (fun hq => by have := hSb _ (s1 _ hq).1; omega)).trans (by repeat (first | ((with_reducible refine heap_at ?_); (focus (simp; done))) | (with_reducible apply set6_0) | (with_reducible apply set6_1) | (with_reducible apply set6_2) | (with_reducible apply set6_3) | (with_reducible apply set6_4) | (with_reducible apply set6_5) | ((with_reducible refine (Below.heap_setCell _ _ _ _ ?_).trans ?_); focus (first | omega | (simp; omega) | (simp; done))) | ((with_reducible refine (Below.heap_alloc _ _ _ ?_).trans ?_); focus (first | omega | (simp; omega) | (simp; done)))))
  obtain ⟨xP0, xP1, xP2, xP3, xP4, xP5, xPf⟩ := row6x SP
  have lP := row_lt SP
  have mP := Nat.lt_succ_of_lt lP
  have nP := Nat.lt_succ_of_lt mP
  have RP := Lib.hid SP
  clear SP
  have HO1 := Lib.hid O1
  have HM1 := Lib.hid M1
  have HL1 := Lib.hid l1
  clear O1 M1 l1
  go_wp2_with fail
  refine (c_laws_markTaintS d.taints _ _ _ _ (H5.out.carry (fun b hb => ((K_w1.block b (by have := hSb b (s5 b hb); first | omega | (simp; omega)) (fun hq => (s1 b hq).2 hb)).trans (Below.heap_alloc _ _ b (by have := hSb b (s5 b hb); first | omega | (simp; omega))))) (fun _ h => h)) (fun b hb => (by have := hSb b (s5 b hb); first | omega | (simp; omega))) hp1 (by have := Hx.out; have := HY1.out; omega)).mono ?_
  rintro e w2 ⟨m5, rfl, l5, O5, M5, hb⟩
  have z_w2 := hb.size
  (try simp at z_w2)
  have K_w2 := hb
  clear hb
  have SP : w2.heap[w.heap.size]? = some (.cells #[.string d.name, .slice A1 d.labels.length c1, .int .i64 d.cpu, .int .i64 d.mem, .int .i64 d.slots, .slice A5 d.taints.length c5] 35 (0, 0)) := (K_w2.block (w.heap.size) (by first | omega | (simp; done) | (simp; omega)) (fun hq => by have := hSb _ (s5 _ hq); omega)).trans (by repeat (first | (exact RP.out) | ((with_reducible refine heap_at ?_); (focus (simp; done))) | (with_reducible apply set6_0) | (with_reducible apply set6_1) | (with_reducible apply set6_2) | (with_reducible apply set6_3) | (with_reducible apply set6_4) | (with_reducible apply set6_5) | ((with_reducible refine (Below.heap_setCell _ _ _ _ ?_).trans ?_); focus (first | omega | (simp; omega) | (simp; done))) | ((with_reducible refine (Below.heap_alloc _ _ _ ?_).trans ?_); focus (first | omega | (simp; omega) | (simp; done)))))
  clear xP0 xP1 xP2 xP3 xP4 xP5 RP xPf lP mP nP
  obtain ⟨xP0, xP1, xP2, xP3, xP4, xP5, xPf⟩ := row6x SP
  have lP := row_lt SP
  have mP := Nat.lt_succ_of_lt lP
  have nP := Nat.lt_succ_of_lt mP
  have RP := Lib.hid SP
  clear SP
  have HO5 := Lib.hid O5
  have HM5 := Lib.hid M5
  have HL5 := Lib.hid l5
  clear O5 M5 l5
  go_wp2_with fail
  go_ret
  have hl1 : m1.length = d.labels.length := HL1.out
  have hl5 : m5.length = d.taints.length := HL5.out
  have hM5 : MkTaints (x + 2 * (⟨d.name, m1, d.cpu, d.mem, d.slots, m5⟩ : Host).labels.length) m5 := by
    have h9 := HM5.out
    have h8 : y1 = x + 2 * (⟨d.name, m1, d.cpu, d.mem, d.slots, m5⟩ : Host).labels.length := by have := HY1.out; simp only []; have := hl1; omega
    rw [h8] at h9
    exact h9
  have hfin : y1 + 3 * d.taints.length = x + cntHost d := by unfold cntHost; have := HY1.out; omega
  exact ⟨⟨d.name, m1, d.cpu, d.mem, d.slots, m5⟩, ret_int hfin, by unfold cntHost; simp only []; omega, ⟨_, _, S1, S5, rfl, a0, (HO1.out.carry (fun b hb => (K_w2.block b (by have := hSb b (s1 b hb).1; first | omega | (simp; omega)) (fun hq => (s1 b hb).2 hq))) (fun _ h => h)), a2, a3, a4, HO5.out, s1, s5⟩, ⟨HM1.out, hM5⟩, (((aside_alloc (Aside.refl S w)).trans (K_w1.mono (fun b hb => (s1 b hb).1))).trans (K_w2.mono (fun b hb => (s5 b hb))))⟩
end Go.Proofs.YteecgklmdfockaaGreatDoor
