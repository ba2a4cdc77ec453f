/- Written by wip/tools/pack.py: the texts that FnExactPodTree needs, without what it does not need. No conditions. -/
import Derived.Test.YteecgklmdfockaaGreatDoorKFnExactPodTree14
import Derived.Test.YteecgklmdfockaaGreatDoorKFnExactPodTree20
import Derived.Test.YteecgklmdfockaaGreatDoorKFnExactPodTree15
import Derived.Test.YteecgklmdfockaaGreatDoorKFnExactPodTree9
import Derived.Test.YteecgklmdfockaaGreatDoorKFnExactPodTree4
import Derived.Test.YteecgklmdfockaaGreatDoorKFnExactPodTree3
import Derived.Test.YteecgklmdfockaaGreatDoorKFnExactPodTree6
import Derived.Test.YteecgklmdfockaaGreatDoorKFnExactPodTree19
namespace Go.Proofs.YteecgklmdfockaaGreatDoor
open Go.RowKit
def intD (x : Int) : TreeD := ⟨3, false, x, ⟨#[]⟩, [], []⟩
def intC (x : Int) : List Value := [.int .i64 3, .bool false, .int .i64 x, .string ⟨#[]⟩, .slice none 0 0, .slice none 0 0]
theorem own_intD {n : Nat} {S : Nat → Prop} {w : World} {x : Int} (hx : I64 x) : OwnT (n + 1) S w (intD x) (intC x) :=
  OwnT.into ⟨.slice none 0 0, .slice none 0 0, fun _ => False, fun _ => False, rfl, (show I64 3 from by unfold I64; decide), hx, (show ByteArray.size ⟨#[]⟩ ≤ 9223372036854775807 from by decide), fun _ h => h.elim, fun _ h => h.elim, ⟨none, 0, rfl, Nat.le_refl _, by decide, fun h => by simp [intD] at h⟩, ⟨none, 0, rfl, Nat.le_refl _, by decide, fun h => by simp [intD] at h⟩⟩
theorem c_impl_IntTree (x : Int) (w : World) : Calls Tryz.prog 33 #[.int .i64 x] w fun e w' => e = .returned (.agg (intC x).toArray) ∧ Below w.heap.size w w' := by
  go_enter Tryz.func33, Tryz.ntmps33
  go_wp2_with fail
  exact bodyPost_ret (v := .agg #[.int .i64 3, .bool false, .int .i64 x, .string ⟨#[]⟩, .slice none 0 0, .slice none 0 0]) (by simp only [results, Tryz.results33]; go_simp) rfl ⟨rfl, bel⟩
theorem c_spec_IntTree (x : Int) (w : World) : Calls Tryz.prog 25 #[.int .i64 x] w fun e w' => e = .returned (.agg (intC x).toArray) ∧ Below w.heap.size w w' := by
  go_enter Tryz.func25, Tryz.ntmps25
  go_wp2_with fail
  exact bodyPost_ret (v := .agg #[.int .i64 3, .bool false, .int .i64 x, .string ⟨#[]⟩, .slice none 0 0, .slice none 0 0]) (by simp only [results, Tryz.results25]; go_simp) rfl ⟨rfl, bel⟩
theorem tree_fin1 {n base B b0 : Nat} {tb : Option Nat} {w wN wF : World} {T : TreeD} {ks : List ByteArray} {ts : List TreeD} {vk vl : Value} (hT : T = ⟨6, false, 0, ⟨#[]⟩, ks, ts⟩) (h : GRow n base tb wN ks ts vk vl) (hB : B ≤ base) (h0 : b0 < base) (hA : Aside (fun b => b = b0) wN wF) (hb : Below B w wN) (hBb : B ≤ b0) (h1 : b0 < wN.heap.size) (hk : ∀ k ∈ ks, k.size ≤ 9223372036854775807) :
    ∃ cs, Ending.returned (.agg #[.int .i64 6, .bool false, .int .i64 0, .string ⟨#[]⟩, vk, vl]) = Ending.returned (.agg cs.toArray) ∧ OwnT (n + 1) (fun b => B ≤ b ∧ b < wF.heap.size) wF T cs ∧ Below B w wF := by
  subst hT
  refine ⟨[.int .i64 6, .bool false, .int .i64 0, .string ⟨#[]⟩, vk, vl], rfl, ?_, hb.trans (hA.below (by omega) (fun i hi => by omega))⟩
  exact ((GRow.carry (w := wN) h hA.size (fun q q1 q2 => hA.block q q2 (by omega))).less hB).tree hk
theorem optK_ok (b : Bool) {k : ByteArray} (h : k.size ≤ 9223372036854775807) : ∀ x ∈ optK b k, x.size ≤ 9223372036854775807 := by
  intro x hx
  unfold optK at hx
  split at hx
  · simp at hx; subst hx; exact h
  · cases hx
end Go.Proofs.YteecgklmdfockaaGreatDoor
namespace Go.Proofs.YteecgklmdfockaaGreatDoor
open Go.RowKit
def podKs (d : Pod) : List ByteArray := headK d.labels ++ optK (!d.needs.isEmpty) hNeeds ++ optK (d.rank != 0) hRank ++ optK (!d.tolerances.isEmpty) hTolerances
def podTs (d : Pod) : List TreeD := headT ⟨#[112, 111, 100]⟩ d.name d.labels d.cpu d.mem ++ optD (!d.needs.isEmpty) (lstD (d.needs.map needT)) ++ optD (d.rank != 0) (intD d.rank) ++ optD (!d.tolerances.isEmpty) (lstD (d.tolerances.map tolTD))
/-- The tree that a pod is told as. -/
def podT (d : Pod) : TreeD := if podB d = true then ⟨6, false, 0, ⟨#[]⟩, podKs d, podTs d⟩ else tree0
theorem podKs_ok (d : Pod) : ∀ k ∈ podKs d, k.size ≤ 9223372036854775807 := by
  intro k hk
  unfold podKs at hk
  simp only [List.mem_append] at hk
  rcases hk with ((hk | hk) | hk) | hk
  · exact head_ok _ k hk
  · exact optK_ok _ (by decide) k hk
  · exact optK_ok _ (by decide) k hk
  · exact optK_ok _ (by decide) k hk
set_option maxHeartbeats 4000000 in
set_option maxRecDepth 20000 in
theorem c_impl_PodTree (n : Nat) (d : Pod) (cs : List Value) (w : World) (lo : Nat) (hh : C_Pod lo w.heap.size w d cs) (hp : Pow w) :
    Calls Tryz.prog 17 #[.agg cs.toArray] w fun e w' => ∃ cs', e = .returned (.agg cs'.toArray) ∧ OwnT (n + 5) (fun b => w.heap.size ≤ b ∧ b < w'.heap.size) w' (podT d) cs' ∧ Below w.heap.size w w' := by
  have HC := Lib.hid hh
  have Hp := Lib.hid hp
  obtain ⟨v1, v5, v6, rfl, a0, a1, a2, a3, a4, a5, a6⟩ := hh
  obtain ⟨A1, c1, rfl⟩ := a1.form
  obtain ⟨A5, c5, rfl⟩ := a5.form
  obtain ⟨A6, c6, rfl⟩ := a6.form
  have HA := Lib.hid (And.intro a0 (And.intro a1 (And.intro a2 (And.intro a3 (And.intro a4 (And.intro a5 a6))))))
  clear a0 a1 a2 a3 a4 a5 a6 hp
  rcases ho : podB d with _ | _
  · have HT := Lib.hid (show podT d = tree0 by unfold podT; rw [if_neg (by rw [ho]; decide)])
    go_enter Tryz.func17, Tryz.ntmps17
    go_wp2_with fail
    refine (c_impl_PodOk d [.string d.name, .slice A1 d.labels.length c1, .int .i64 d.cpu, .int .i64 d.mem, .int .i64 d.rank, .slice A5 d.needs.length c5, .slice A6 d.tolerances.length c6] _ lo (C_Pod.now HC.out bel)).mono ?_
    rintro e w1 ⟨rfl, hb⟩
    rw [ho]
    have Z := (hb.block (w.heap.size + 1) (by simp)).trans (heap_at (by simp))
    have hl := row_lt Z
    obtain ⟨x0, x1, x2, x3, x4, x5, xf⟩ := row6 Z
    have Bw : Below w.heap.size w w1 := Below.trans bel (hb.mono (by simp; omega))
    clear Z hb
    go_wp2_with fail
    exact bodyPost_ret (v := .agg #[.int .i64 0, .bool false, .int .i64 0, .string ⟨#[]⟩, .slice none 0 0, .slice none 0 0]) (by simp only [results, Tryz.results17]; go_simp) rfl (tree_fin0 (n := n + 3) HT.out (Bw.trans (Aside.below (S := fun b => b = w.heap.size + 1) (by repeat (first | (with_reducible exact Aside.refl _ _) | ((with_reducible refine aside_set ?_ ?_); (focus (simp; done))) | (with_reducible refine aside_alloc ?_))) Bw.size (fun i hi => by omega))))
  · have HT := Lib.hid (show podT d = ⟨6, false, 0, ⟨#[]⟩, podKs d, podTs d⟩ by unfold podT; rw [if_pos ho])
    have Hho := Lib.hid ho
    go_enter Tryz.func17, Tryz.ntmps17
    go_wp2_with fail
    refine (c_impl_PodOk d [.string d.name, .slice A1 d.labels.length c1, .int .i64 d.cpu, .int .i64 d.mem, .int .i64 d.rank, .slice A5 d.needs.length c5, .slice A6 d.tolerances.length c6] _ lo (C_Pod.now HC.out bel)).mono ?_
    rintro e w1 ⟨rfl, hb⟩
    rw [ho]
    have S1 : w1.heap[w.heap.size]? = some (.cells #[.string d.name, .slice A1 d.labels.length c1, .int .i64 d.cpu, .int .i64 d.mem, .int .i64 d.rank, .slice A5 d.needs.length c5, .slice A6 d.tolerances.length c6] 51 (0, 0)) := (hb.block w.heap.size (by simp; omega)).trans ((Below.heap_alloc _ _ _ (by simp)).trans (heap_at (by simp)))
    have S2 : w1.heap[w.heap.size + 1]? = some (.cells #[.int .i64 0, .bool false, .int .i64 0, .string ⟨#[]⟩, .slice none 0 0, .slice none 0 0] 30 (0, 0)) := (hb.block (w.heap.size + 1) (by simp)).trans (heap_at (by simp))
    have Bw : Below w.heap.size w w1 := Below.trans bel (hb.mono (by simp; omega))
    have hz := hb.size
    simp at hz
    obtain ⟨x0, x1, x2, x3, x4, x5, x6, xf⟩ := row7x S1
    have l1 := row_lt S1
    have R1 := Lib.hid S1
    have R2 := Lib.hid S2
    have HB1 := Lib.hid Bw
    clear S1 S2 hb Bw ho
    go_wp2_with fail
    refine (c_impl_commonTree (n + 2) ⟨#[112, 111, 100]⟩ d.name d.labels (.slice A1 d.labels.length c1) d.cpu d.mem _ lo (by decide) HA.out.1 (HA.out.2.1.keep (same_below HB1.out) (Nat.le_refl _) HB1.out.size) HA.out.2.2.1 HA.out.2.2.2.1 (Hp.out.below HB1.out)).mono ?_
    rintro e w2 ⟨vk, vl, rfl, hg, hb⟩
    obtain ⟨A8, c8, A9, c9, rfl, rfl⟩ := hg.form
    have S1 := (hb.block w.heap.size (by omega)).trans R1.out
    have S2 := (hb.block (w.heap.size + 1) (by omega)).trans R2.out
    have HB2 := Lib.hid (HB1.out.trans (hb.mono HB1.out.size))
    have hz2 := Nat.le_trans hz hb.size
    have Hg := Lib.hid hg
    clear x0 x1 x2 x3 x4 x5 x6 xf l1 hg hb
    obtain ⟨x0, x1, x2, x3, x4, x5, x6, xf⟩ := row7x S1
    have l1 := row_lt S1
    have Q1 := Lib.hid S1
    have Q2 := Lib.hid S2
    clear S1 S2
    go_upto_if 20 with fail
    obtain ⟨tb, htb⟩ : ∃ t, t = w2.heap.size := ⟨_, rfl⟩
    obtain ⟨w3, hW⟩ : ∃ x, x = w2.alloc (.cells #[.int .i64 6, .bool false, .int .i64 0, .string ⟨#[]⟩, .slice A8 (headK d.labels).length c8, .slice A9 (headT ⟨#[112, 111, 100]⟩ d.name d.labels d.cpu d.mem).length c9] 30) := ⟨_, rfl⟩
    rw [← hW, ← htb]
    have hb3 : Below w2.heap.size w2 w3 := by rw [hW]; exact bel
    have HR3 := Lib.hid ((hb3.block _ l1).trans Q1.out)
    have HZ3 := Lib.hid ((hb3.block _ (row_lt Q2.out)).trans Q2.out)
    have HB3 := Lib.hid (HB2.out.trans (hb3.mono HB2.out.size))
    have HG3 := Lib.hid (show GMap (n + 4) (w.heap.size + 2) tb w3 (headK d.labels) (headT ⟨#[112, 111, 100]⟩ d.name d.labels d.cpu d.mem) from by
      refine ⟨_, _, by rw [hW, htb]; exact heap_at rfl, ?_, fun e => by have := (Hg.out.lt.1 _ e).2; omega, fun e => by have := (Hg.out.lt.2 _ e).2; omega⟩
      exact ((Hg.out.box tb (.inl (by omega))).carry hb3.size (fun q _ hq => hb3.block q hq)).less hz)
    have hzt : w.heap.size + 2 ≤ tb := by omega
    have hz3 : tb < w3.heap.size := by rw [hW, htb]; simp
    clear hW htb hb3 x0 x1 x2 x3 x4 x5 x6 xf l1 hz hz2
    obtain ⟨x0, x1, x2, x3, x4, x5, x6, xf⟩ := row7x HR3.out
    have l1 := row_lt HR3.out
    go_cut [] from 20 to 24 (fun wx => GMap (n + 4) (w.heap.size + 2) tb wx (headK d.labels ++ optK (!d.needs.isEmpty) hNeeds) (headT ⟨#[112, 111, 100]⟩ d.name d.labels d.cpu d.mem ++ optD (!d.needs.isEmpty) (lstD (d.needs.map needT))) ∧ wx.heap[w.heap.size]? = some (.cells #[.string d.name, .slice A1 d.labels.length c1, .int .i64 d.cpu, .int .i64 d.mem, .int .i64 d.rank, .slice A5 d.needs.length c5, .slice A6 d.tolerances.length c6] 51 (0, 0)) ∧ wx.heap[w.heap.size + 1]? = some (.cells #[.int .i64 0, .bool false, .int .i64 0, .string ⟨#[]⟩, .slice none 0 0, .slice none 0 0] 30 (0, 0)) ∧ Below w.heap.size w wx ∧ tb < wx.heap.size)
    case first =>
      by_cases h0 : d.needs.length = 0
      · have HE := Lib.hid (emp_no h0)
        have hl0 : ¬ (0 : Int) < d.needs.length := by omega
        clear h0
        go_wp2_with fail
        go_meet
        rw [HE.out]
        exact ⟨by simpa [optK, optD] using HG3.out, HR3.out, HZ3.out, HB3.out, hz3⟩
      · have HE := Lib.hid (emp_yes h0)
        have hl0 : (0 : Int) < d.needs.length := by omega
        clear h0
        go_wp2_with fail
        refine (c_listOf_Need n d.needs _ _ lo (HA.out.2.2.2.2.2.1.keep (same_below HB3.out) (Nat.le_refl _) HB3.out.size) (by have h9 := Hho.out; unfold podB selB at h9; simp only [Bool.and_eq_true, decide_eq_true_eq] at h9; omega)).mono ?_
        rintro e wA ⟨ck, rfl, hO, hb⟩
        have HO := Lib.hid hO
        clear hO
        have RA := (hb.block _ l1).trans HR3.out
        have ZA := (hb.block _ (row_lt HZ3.out)).trans HZ3.out
        have BA := HB3.out.trans (hb.mono HB3.out.size)
        have HRA := Lib.hid RA
        have HZA := Lib.hid ZA
        have HBA := Lib.hid BA
        have Hb := Lib.hid hb
        clear x0 x1 x2 x3 x4 x5 x6 xf l1 RA ZA BA hb
        go_wp2_with fail
        refine (c_addKidG (n + 4) (headK d.labels) (headT ⟨#[112, 111, 100]⟩ d.name d.labels d.cpu d.mem) hNeeds (lstD (d.needs.map needT)) ck tb (w.heap.size + 2) w3 _ HG3.out Hb.out HO.out (by have := HB3.out.size; omega) (by have := headK_len d.labels; have := headKT ⟨#[112, 111, 100]⟩ d.name d.labels d.cpu d.mem; simp; omega) (by have := headK_len d.labels; have := headKT ⟨#[112, 111, 100]⟩ d.name d.labels d.cpu d.mem; simp; omega)).mono ?_
        rintro e wB ⟨rfl, hgB, hbB, hzB⟩
        have b9 := hbB (w.heap.size + 2) hzt (Nat.le_refl _)
        have RB := Lib.hid ((b9.block w.heap.size (by omega)).trans HRA.out)
        have ZB := Lib.hid ((b9.block (w.heap.size + 1) (by omega)).trans HZA.out)
        have BB := Lib.hid (HBA.out.trans (b9.mono (by omega)))
        have HgB := Lib.hid hgB
        have zB : tb < wB.heap.size := Nat.lt_of_lt_of_le hz3 (Nat.le_trans Hb.out.size hzB)
        clear hgB hbB hzB b9
        go_wp2_with fail
        go_meet
        rw [HE.out]
        exact ⟨HgB.out, RB.out, ZB.out, BB.out, zB⟩
    case rest =>
      obtain ⟨hG, hR, hZ, hB, hz⟩ := hcut
      obtain ⟨w4, hwN⟩ : ∃ x, x = wc := ⟨_, rfl⟩
      rw [← hwN] at hG hR hZ hB hz ⊢
      clear hwN
      have HG4 := Lib.hid hG
      have HR4 := Lib.hid hR
      have HZ4 := Lib.hid hZ
      have HB4 := Lib.hid hB
      have hz4 := hz
      clear hG hR hZ hB hz x0 x1 x2 x3 x4 x5 x6 xf l1
      obtain ⟨x0, x1, x2, x3, x4, x5, x6, xf⟩ := row7x HR4.out
      have l1 := row_lt HR4.out
      go_upto_if 27 with fail
      go_cut [] from 27 to 31 (fun wx => GMap (n + 4) (w.heap.size + 2) tb wx (headK d.labels ++ optK (!d.needs.isEmpty) hNeeds ++ optK (d.rank != 0) hRank) (headT ⟨#[112, 111, 100]⟩ d.name d.labels d.cpu d.mem ++ optD (!d.needs.isEmpty) (lstD (d.needs.map needT)) ++ optD (d.rank != 0) (intD d.rank)) ∧ wx.heap[w.heap.size]? = some (.cells #[.string d.name, .slice A1 d.labels.length c1, .int .i64 d.cpu, .int .i64 d.mem, .int .i64 d.rank, .slice A5 d.needs.length c5, .slice A6 d.tolerances.length c6] 51 (0, 0)) ∧ wx.heap[w.heap.size + 1]? = some (.cells #[.int .i64 0, .bool false, .int .i64 0, .string ⟨#[]⟩, .slice none 0 0, .slice none 0 0] 30 (0, 0)) ∧ Below w.heap.size w wx ∧ tb < wx.heap.size)
      case first =>
        rcases hc : (d.rank != 0) with _ | _
        · have hc2 : (d.rank == 0) = true := by simpa using hc
          have HE := Lib.hid hc
          go_wp2_with fail
          go_meet
          rw [HE.out]
          exact ⟨by simpa [optK, optD] using HG4.out, HR4.out, HZ4.out, HB4.out, hz4⟩
        · have hc2 : (d.rank == 0) = false := by simpa using hc
          have HE := Lib.hid hc
          go_wp2_with fail
          refine (c_impl_IntTree d.rank _).mono ?_
          rintro e wA ⟨rfl, hb⟩
          have RA := (hb.block _ l1).trans HR4.out
          have ZA := (hb.block _ (row_lt HZ4.out)).trans HZ4.out
          have BA := HB4.out.trans (hb.mono HB4.out.size)
          have HRA := Lib.hid RA
          have HZA := Lib.hid ZA
          have HBA := Lib.hid BA
          have Hb := Lib.hid hb
          clear x0 x1 x2 x3 x4 x5 x6 xf l1 RA ZA BA hb
          go_wp2_with fail
          refine (c_addKidG (n + 4) (headK d.labels ++ optK (!d.needs.isEmpty) hNeeds) (headT ⟨#[112, 111, 100]⟩ d.name d.labels d.cpu d.mem ++ optD (!d.needs.isEmpty) (lstD (d.needs.map needT))) hRank (intD d.rank) (intC d.rank) tb (w.heap.size + 2) w4 _ HG4.out Hb.out (own_intD HA.out.2.2.2.2.1) (by have := HB4.out.size; omega) (by have := headK_len d.labels; have := headKT ⟨#[112, 111, 100]⟩ d.name d.labels d.cpu d.mem; have := optK_len (!d.needs.isEmpty) hNeeds; have := optKD (!d.needs.isEmpty) hNeeds (lstD (d.needs.map needT)); simp; omega) (by have := headK_len d.labels; have := headKT ⟨#[112, 111, 100]⟩ d.name d.labels d.cpu d.mem; have := optK_len (!d.needs.isEmpty) hNeeds; have := optKD (!d.needs.isEmpty) hNeeds (lstD (d.needs.map needT)); simp; omega)).mono ?_
          rintro e wB ⟨rfl, hgB, hbB, hzB⟩
          have b9 := hbB (w.heap.size + 2) hzt (Nat.le_refl _)
          have RB := Lib.hid ((b9.block w.heap.size (by omega)).trans HRA.out)
          have ZB := Lib.hid ((b9.block (w.heap.size + 1) (by omega)).trans HZA.out)
          have BB := Lib.hid (HBA.out.trans (b9.mono (by omega)))
          have HgB := Lib.hid hgB
          have zB : tb < wB.heap.size := Nat.lt_of_lt_of_le hz4 (Nat.le_trans Hb.out.size hzB)
          clear hgB hbB hzB b9
          go_wp2_with fail
          go_meet
          (try rw [HE.out])
          exact ⟨HgB.out, RB.out, ZB.out, BB.out, zB⟩
      case rest =>
        obtain ⟨hG, hR, hZ, hB, hz⟩ := hcut
        obtain ⟨w5, hwN⟩ : ∃ x, x = wc := ⟨_, rfl⟩
        rw [← hwN] at hG hR hZ hB hz ⊢
        clear hwN
        have HG5 := Lib.hid hG
        have HR5 := Lib.hid hR
        have HZ5 := Lib.hid hZ
        have HB5 := Lib.hid hB
        have hz5 := hz
        clear hG hR hZ hB hz x0 x1 x2 x3 x4 x5 x6 xf l1
        obtain ⟨x0, x1, x2, x3, x4, x5, x6, xf⟩ := row7x HR5.out
        have l1 := row_lt HR5.out
        go_upto_if 35 with fail
        go_cut [] from 35 to 39 (fun wx => GMap (n + 4) (w.heap.size + 2) tb wx (headK d.labels ++ optK (!d.needs.isEmpty) hNeeds ++ optK (d.rank != 0) hRank ++ optK (!d.tolerances.isEmpty) hTolerances) (headT ⟨#[112, 111, 100]⟩ d.name d.labels d.cpu d.mem ++ optD (!d.needs.isEmpty) (lstD (d.needs.map needT)) ++ optD (d.rank != 0) (intD d.rank) ++ optD (!d.tolerances.isEmpty) (lstD (d.tolerances.map tolTD))) ∧ wx.heap[w.heap.size]? = some (.cells #[.string d.name, .slice A1 d.labels.length c1, .int .i64 d.cpu, .int .i64 d.mem, .int .i64 d.rank, .slice A5 d.needs.length c5, .slice A6 d.tolerances.length c6] 51 (0, 0)) ∧ wx.heap[w.heap.size + 1]? = some (.cells #[.int .i64 0, .bool false, .int .i64 0, .string ⟨#[]⟩, .slice none 0 0, .slice none 0 0] 30 (0, 0)) ∧ Below w.heap.size w wx ∧ tb < wx.heap.size)
        case first =>
          by_cases h0 : d.tolerances.length = 0
          · have HE := Lib.hid (emp_no h0)
            have hl0 : ¬ (0 : Int) < d.tolerances.length := by omega
            clear h0
            go_wp2_with fail
            go_meet
            rw [HE.out]
            exact ⟨by simpa [optK, optD] using HG5.out, HR5.out, HZ5.out, HB5.out, hz5⟩
          · have HE := Lib.hid (emp_yes h0)
            have hl0 : (0 : Int) < d.tolerances.length := by omega
            clear h0
            go_wp2_with fail
            refine (c_listOf_Tolerance (n + 1) d.tolerances _ _ lo (HA.out.2.2.2.2.2.2.keep (same_below HB5.out) (Nat.le_refl _) HB5.out.size) (by have h9 := Hho.out; unfold podB tolsOkB at h9; simp only [Bool.and_eq_true, decide_eq_true_eq] at h9; omega)).mono ?_
            rintro e wA ⟨ck, rfl, hO, hb⟩
            have HO := Lib.hid hO
            clear hO
            have RA := (hb.block _ l1).trans HR5.out
            have ZA := (hb.block _ (row_lt HZ5.out)).trans HZ5.out
            have BA := HB5.out.trans (hb.mono HB5.out.size)
            have HRA := Lib.hid RA
            have HZA := Lib.hid ZA
            have HBA := Lib.hid BA
            have Hb := Lib.hid hb
            clear x0 x1 x2 x3 x4 x5 x6 xf l1 RA ZA BA hb
            go_wp2_with fail
            refine (c_addKidG (n + 4) (headK d.labels ++ optK (!d.needs.isEmpty) hNeeds ++ optK (d.rank != 0) hRank) (headT ⟨#[112, 111, 100]⟩ d.name d.labels d.cpu d.mem ++ optD (!d.needs.isEmpty) (lstD (d.needs.map needT)) ++ optD (d.rank != 0) (intD d.rank)) hTolerances (lstD (d.tolerances.map tolTD)) ck tb (w.heap.size + 2) w5 _ HG5.out Hb.out HO.out (by have := HB5.out.size; omega) (by have := headK_len d.labels; have := headKT ⟨#[112, 111, 100]⟩ d.name d.labels d.cpu d.mem; have := optK_len (!d.needs.isEmpty) hNeeds; have := optKD (!d.needs.isEmpty) hNeeds (lstD (d.needs.map needT)); have := optK_len (d.rank != 0) hRank; have := optKD (d.rank != 0) hRank (intD d.rank); simp; omega) (by have := headK_len d.labels; have := headKT ⟨#[112, 111, 100]⟩ d.name d.labels d.cpu d.mem; have := optK_len (!d.needs.isEmpty) hNeeds; have := optKD (!d.needs.isEmpty) hNeeds (lstD (d.needs.map needT)); have := optK_len (d.rank != 0) hRank; have := optKD (d.rank != 0) hRank (intD d.rank); simp; omega)).mono ?_
            rintro e wB ⟨rfl, hgB, hbB, hzB⟩
            have b9 := hbB (w.heap.size + 2) hzt (Nat.le_refl _)
            have RB := Lib.hid ((b9.block w.heap.size (by omega)).trans HRA.out)
            have ZB := Lib.hid ((b9.block (w.heap.size + 1) (by omega)).trans HZA.out)
            have BB := Lib.hid (HBA.out.trans (b9.mono (by omega)))
            have HgB := Lib.hid hgB
            have zB : tb < wB.heap.size := Nat.lt_of_lt_of_le hz5 (Nat.le_trans Hb.out.size hzB)
            clear hgB hbB hzB b9
            go_wp2_with fail
            go_meet
            rw [HE.out]
            exact ⟨HgB.out, RB.out, ZB.out, BB.out, zB⟩
        case rest =>
          obtain ⟨hG, hR, hZ, hB, hz⟩ := hcut
          obtain ⟨w6, hwN⟩ : ∃ x, x = wc := ⟨_, rfl⟩
          rw [← hwN] at hG hR hZ hB hz ⊢
          clear hwN
          have HG6 := Lib.hid hG
          have HR6 := Lib.hid hR
          have HZ6 := Lib.hid hZ
          have HB6 := Lib.hid hB
          have hz6 := hz
          clear hG hR hZ hB hz x0 x1 x2 x3 x4 x5 x6 xf l1
          obtain ⟨E4, E5, m4, d4, m5, d5, hrow, hgr, -, -⟩ := HG6.out.open
          obtain ⟨y0, y1, y2, y3, y4, y5, yf⟩ := row6 hrow
          obtain ⟨z0, z1, z2, z3, z4, z5, zf⟩ := row6 HZ6.out
          have l2 := row_lt hrow
          have l3 := row_lt HZ6.out
          have HGr := Lib.hid hgr
          clear hrow hgr
          go_wp2_with fail
          exact bodyPost_ret (v := .agg #[.int .i64 6, .bool false, .int .i64 0, .string ⟨#[]⟩, .slice E4 m4 d4, .slice E5 m5 d5]) (by simp only [results, Tryz.results17]; go_simp) rfl (tree_fin1 (n := n + 4) (base := w.heap.size + 2) (B := w.heap.size) (b0 := w.heap.size + 1) (wN := w6) HT.out HGr.out (by omega) (by omega) (by repeat (first | (with_reducible exact Aside.refl _ _) | ((with_reducible refine aside_set ?_ ?_); (focus (simp; done))) | (with_reducible refine aside_alloc ?_))) HB6.out (by omega) l3 (podKs_ok d))
end Go.Proofs.YteecgklmdfockaaGreatDoor
namespace Go.Proofs.YteecgklmdfockaaGreatDoor
open Go.RowKit
theorem grow_list {n base hi : Nat} {w : World} {l : List TreeD} {v : Value} (h : GrowK n base hi w l v) (hh : hi ≤ w.heap.size) : C_Tree (n + 1) base w.heap.size w (lstD l) [.int .i64 5, .bool false, .int .i64 0, .string ⟨#[]⟩, .slice none 0 0, v] :=
  (own_lstD h (wF := w) (fun _ _ _ => rfl) (S := fun b => base ≤ b ∧ b < w.heap.size) (fun _ h1 h2 => ⟨h1, Nat.lt_of_lt_of_le h2 hh⟩)).toC (fun _ hb => hb)
theorem lt_needs_rank : lessS hNeeds hRank = true := by simp [lessS, hNeeds, hRank, ByteArray.toList_eq, Op.bytesLess]
theorem lt_needs_tolerances : lessS hNeeds hTolerances = true := by simp [lessS, hNeeds, hTolerances, ByteArray.toList_eq, Op.bytesLess]
theorem lt_rank_tolerances : lessS hRank hTolerances = true := by simp [lessS, hRank, hTolerances, ByteArray.toList_eq, Op.bytesLess]
theorem lt_name_needs : lessS hName hNeeds = true := by simp [lessS, hName, hNeeds, ByteArray.toList_eq, Op.bytesLess]
theorem lt_name_rank : lessS hName hRank = true := by simp [lessS, hName, hRank, ByteArray.toList_eq, Op.bytesLess]
theorem lt_name_tolerances : lessS hName hTolerances = true := by simp [lessS, hName, hTolerances, ByteArray.toList_eq, Op.bytesLess]
theorem lt_mem_needs : lessS hMem hNeeds = true := by simp [lessS, hMem, hNeeds, ByteArray.toList_eq, Op.bytesLess]
theorem lt_mem_rank : lessS hMem hRank = true := by simp [lessS, hMem, hRank, ByteArray.toList_eq, Op.bytesLess]
theorem lt_mem_tolerances : lessS hMem hTolerances = true := by simp [lessS, hMem, hTolerances, ByteArray.toList_eq, Op.bytesLess]
theorem lt_labels_needs : lessS hLabels hNeeds = true := by simp [lessS, hLabels, hNeeds, ByteArray.toList_eq, Op.bytesLess]
theorem lt_labels_rank : lessS hLabels hRank = true := by simp [lessS, hLabels, hRank, ByteArray.toList_eq, Op.bytesLess]
theorem lt_labels_tolerances : lessS hLabels hTolerances = true := by simp [lessS, hLabels, hTolerances, ByteArray.toList_eq, Op.bytesLess]
theorem lt_kind_needs : lessS hKind hNeeds = true := by simp [lessS, hKind, hNeeds, ByteArray.toList_eq, Op.bytesLess]
theorem lt_kind_rank : lessS hKind hRank = true := by simp [lessS, hKind, hRank, ByteArray.toList_eq, Op.bytesLess]
theorem lt_kind_tolerances : lessS hKind hTolerances = true := by simp [lessS, hKind, hTolerances, ByteArray.toList_eq, Op.bytesLess]
theorem lt_cpu_needs : lessS hCpu hNeeds = true := by simp [lessS, hCpu, hNeeds, ByteArray.toList_eq, Op.bytesLess]
theorem lt_cpu_rank : lessS hCpu hRank = true := by simp [lessS, hCpu, hRank, ByteArray.toList_eq, Op.bytesLess]
theorem lt_cpu_tolerances : lessS hCpu hTolerances = true := by simp [lessS, hCpu, hTolerances, ByteArray.toList_eq, Op.bytesLess]
theorem head_lt_needs (l : List Label) : ∀ x ∈ headK l, lessS x hNeeds = true := by
  intro x hx
  unfold headK at hx
  simp at hx
  rcases hx with rfl | rfl | h | rfl | rfl
  · exact lt_cpu_needs
  · exact lt_kind_needs
  · unfold optK at h
    split at h
    · simp at h; subst h; exact lt_labels_needs
    · cases h
  · exact lt_mem_needs
  · exact lt_name_needs
theorem head_lt_rank (l : List Label) : ∀ x ∈ headK l, lessS x hRank = true := by
  intro x hx
  unfold headK at hx
  simp at hx
  rcases hx with rfl | rfl | h | rfl | rfl
  · exact lt_cpu_rank
  · exact lt_kind_rank
  · unfold optK at h
    split at h
    · simp at h; subst h; exact lt_labels_rank
    · cases h
  · exact lt_mem_rank
  · exact lt_name_rank
theorem head_lt_tolerances (l : List Label) : ∀ x ∈ headK l, lessS x hTolerances = true := by
  intro x hx
  unfold headK at hx
  simp at hx
  rcases hx with rfl | rfl | h | rfl | rfl
  · exact lt_cpu_tolerances
  · exact lt_kind_tolerances
  · unfold optK at h
    split at h
    · simp at h; subst h; exact lt_labels_tolerances
    · cases h
  · exact lt_mem_tolerances
  · exact lt_name_tolerances
theorem optK_lt (b : Bool) {k key : ByteArray} (h : lessS k key = true) : ∀ x ∈ optK b k, lessS x key = true := by
  intro x hx
  unfold optK at hx
  split at hx
  · simp at hx; subst hx; exact h
  · cases hx
end Go.Proofs.YteecgklmdfockaaGreatDoor
