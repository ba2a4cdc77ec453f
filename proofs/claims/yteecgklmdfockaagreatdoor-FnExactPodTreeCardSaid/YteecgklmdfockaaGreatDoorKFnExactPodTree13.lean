/- Written by wip/tools/pack.py: the texts that FnExactPodTree needs, without what it does not need. No conditions. -/
import Derived.Test.YteecgklmdfockaaGreatDoorKFnExactPodTree12
import Derived.Test.YteecgklmdfockaaGreatDoorKFnExactPodTree10
import Derived.Deep.Cut
import Derived.Deep.CutRange
import Derived.Test.YteecgklmdfockaaGreatDoorKFnExactPodTree11
import Derived.Test.YteecgklmdfockaaGreatDoorKFnExactPodTree5
namespace Go.Proofs.YteecgklmdfockaaGreatDoor
open Go.RowKit
def hCpu : ByteArray := ⟨#[99, 112, 117]⟩
def hKind : ByteArray := ⟨#[107, 105, 110, 100]⟩
def hLabels : ByteArray := ⟨#[108, 97, 98, 101, 108, 115]⟩
def hMem : ByteArray := ⟨#[109, 101, 109]⟩
def hName : ByteArray := ⟨#[110, 97, 109, 101]⟩
def hNeeds : ByteArray := ⟨#[110, 101, 101, 100, 115]⟩
def hRank : ByteArray := ⟨#[114, 97, 110, 107]⟩
def hTolerances : ByteArray := ⟨#[116, 111, 108, 101, 114, 97, 110, 99, 101, 115]⟩
def optK (b : Bool) (k : ByteArray) : List ByteArray := if b then [k] else []
def optD (b : Bool) (d : TreeD) : List TreeD := if b then [d] else []
theorem optK_len (b : Bool) (k : ByteArray) : (optK b k).length ≤ 1 := by cases b <;> simp [optK]
theorem optKD (b : Bool) (k : ByteArray) (d : TreeD) : (optD b d).length = (optK b k).length := by cases b <;> rfl
def headK (l : List Label) : List ByteArray := [hCpu, hKind] ++ optK (!l.isEmpty) hLabels ++ [hMem, hName]
def headT (kind name : ByteArray) (l : List Label) (cpu mem : Int) : List TreeD := [leafD (amtS cpu), leafD kind] ++ optD (!l.isEmpty) (labelsT l) ++ [leafD (amtS mem), leafD name]
theorem headK_eq (l : List Label) : headK l = [hCpu, hKind] ++ optK (!l.isEmpty) hLabels ++ [hMem] ++ [hName] := by unfold headK; rw [List.append_assoc _ [hMem] [hName]]; rfl
theorem headT_eq (kind name : ByteArray) (l : List Label) (cpu mem : Int) : headT kind name l cpu mem = [leafD (amtS cpu), leafD kind] ++ optD (!l.isEmpty) (labelsT l) ++ [leafD (amtS mem)] ++ [leafD name] := by unfold headT; rw [List.append_assoc _ [leafD (amtS mem)] [leafD name]]; rfl
theorem emp_no {D : Type} {l : List D} (h : l.length = 0) : (!l.isEmpty) = false := by cases l with | nil => rfl | cons a r => simp at h
theorem emp_yes {D : Type} {l : List D} (h : ¬ l.length = 0) : (!l.isEmpty) = true := by cases l with | nil => simp at h | cons a r => rfl
theorem headK_len (l : List Label) : (headK l).length ≤ 5 := by unfold headK; have := optK_len (!l.isEmpty) hLabels; simp; omega
theorem headKT (kind name : ByteArray) (l : List Label) (cpu mem : Int) : (headT kind name l cpu mem).length = (headK l).length := by unfold headT headK; have := optKD (!l.isEmpty) hLabels (labelsT l); simp; exact this
theorem head_ok (l : List Label) : ∀ k ∈ headK l, k.size ≤ 9223372036854775807 := by
  intro k hk
  unfold headK at hk
  simp at hk
  rcases hk with rfl | rfl | hk | rfl | rfl
  · decide
  · decide
  · unfold optK at hk
    split at hk
    · simp at hk; subst hk; decide
    · cases hk
  · decide
  · decide
theorem lt_cpu_kind : lessS hCpu hKind = true := by simp [lessS, hCpu, hKind, ByteArray.toList_eq, Op.bytesLess]
theorem lt_cpu_labels : lessS hCpu hLabels = true := by simp [lessS, hCpu, hLabels, ByteArray.toList_eq, Op.bytesLess]
theorem lt_kind_labels : lessS hKind hLabels = true := by simp [lessS, hKind, hLabels, ByteArray.toList_eq, Op.bytesLess]
theorem lt_cpu_mem : lessS hCpu hMem = true := by simp [lessS, hCpu, hMem, ByteArray.toList_eq, Op.bytesLess]
theorem lt_kind_mem : lessS hKind hMem = true := by simp [lessS, hKind, hMem, ByteArray.toList_eq, Op.bytesLess]
theorem lt_labels_mem : lessS hLabels hMem = true := by simp [lessS, hLabels, hMem, ByteArray.toList_eq, Op.bytesLess]
theorem lt_cpu_name : lessS hCpu hName = true := by simp [lessS, hCpu, hName, ByteArray.toList_eq, Op.bytesLess]
theorem lt_kind_name : lessS hKind hName = true := by simp [lessS, hKind, hName, ByteArray.toList_eq, Op.bytesLess]
theorem lt_labels_name : lessS hLabels hName = true := by simp [lessS, hLabels, hName, ByteArray.toList_eq, Op.bytesLess]
theorem lt_mem_name : lessS hMem hName = true := by simp [lessS, hMem, hName, ByteArray.toList_eq, Op.bytesLess]
theorem grow_fin {n base B b0 : Nat} {tb : Option Nat} {w wN wF : World} {ks : List ByteArray} {ts : List TreeD} {vk vl : Value} (h : GRow n base tb wN ks ts vk vl) (hB : B ≤ base) (h0 : b0 < base) (hA : Aside (fun b => b = b0) wN wF) (hb : Below b0 w wN) (h1 : b0 < wN.heap.size) :
    ∃ vk' vl', Ending.returned (.agg #[.int .i64 6, .bool false, .int .i64 0, .string ⟨#[]⟩, vk, vl]) = Ending.returned (.agg #[.int .i64 6, .bool false, .int .i64 0, .string ⟨#[]⟩, vk', vl']) ∧ GRow n B none wF ks ts vk' vl' ∧ Below b0 w wF := by
  refine ⟨vk, vl, rfl, GRow.less (base := base) (GRow.carry (w := wN) h.free hA.size (fun q q1 q2 => hA.block q q2 (by omega))) hB, ?_⟩
  exact hb.trans (hA.below (Nat.le_of_lt h1) (fun i hi => by omega))
set_option maxHeartbeats 4000000 in
set_option maxRecDepth 20000 in
theorem c_impl_commonTree (n : Nat) (kind name : ByteArray) (l : List Label) (v : Value) (cpu mem : Int) (w : World) (lo : Nat) (hk : kind.size ≤ 9223372036854775807) (hn : name.size ≤ 9223372036854775807) (hs : Sl_Label lo w.heap.size w l v) (hc : -9223372036854775808 ≤ cpu ∧ cpu ≤ 9223372036854775807) (hm : -9223372036854775808 ≤ mem ∧ mem ≤ 9223372036854775807) (hp : Pow w) :
    Calls Tryz.prog 31 #[.string kind, .string name, v, .int .i64 cpu, .int .i64 mem] w fun e w' => ∃ vk vl, e = .returned (.agg #[.int .i64 6, .bool false, .int .i64 0, .string ⟨#[]⟩, vk, vl]) ∧ GRow (n + 2) w.heap.size none w' (headK l) (headT kind name l cpu mem) vk vl ∧ Below w.heap.size w w' := by
  obtain ⟨A, c, rfl⟩ := hs.form
  have HS := Lib.hid hs
  have Hp := Lib.hid hp
  have Hc := Lib.hid hc
  have Hm := Lib.hid hm
  have hac : (amtS cpu).size ≤ 9223372036854775807 := by have := amtS_size cpu hc; omega
  have ham : (amtS mem).size ≤ 9223372036854775807 := by have := amtS_size mem hm; omega
  have Hsz := Lib.hid (And.intro (And.intro hac ham) (And.intro hk hn))
  clear hs hp hc hm hac ham hk hn
  go_enter Tryz.func31, Tryz.ntmps31
  go_wp2_with fail
  refine (c_impl_AmountText cpu _ Hc.out (Hp.out.below bel)).mono ?_
  rintro e w1 ⟨rfl, hb1⟩
  have R1 : w1.heap[w.heap.size]? = some (.cells #[.int .i64 0, .bool false, .int .i64 0, .string ⟨#[]⟩, .slice none 0 0, .slice none 0 0] 30 (0, 0)) := (hb1.block w.heap.size (by simp; omega)).trans ((Below.heap_alloc _ _ _ (by simp)).trans (heap_at (by simp)))
  have G1 : GMap (n + 2) (w.heap.size + 2) (w.heap.size + 1) w1 [] [] := GMap.nil ((hb1.block (w.heap.size + 1) (by simp)).trans (heap_at (by simp)))
  have B1 : Below w.heap.size w w1 := Below.trans bel (hb1.mono (by simp; omega))
  have z1 := hb1.size
  simp at z1
  have HR1 := Lib.hid R1
  have HG1 := Lib.hid G1
  have HB1 := Lib.hid B1
  clear R1 G1 B1 hb1
  go_wp2_with fail
  refine (c_impl_TextTree (amtS cpu) _).mono ?_
  rintro e w2 ⟨rfl, hb2⟩
  have HR2 := Lib.hid ((hb2.block w.heap.size (by omega)).trans HR1.out)
  have HB2 := Lib.hid (HB1.out.trans (hb2.mono HB1.out.size))
  have z2 := Nat.le_trans z1 hb2.size
  have HX2 := Lib.hid hb2
  clear hb2
  go_wp2_with fail
  refine (c_addKidG (n + 2) _ _ hCpu (leafD (amtS cpu)) (leafC (amtS cpu)) (w.heap.size + 1) (w.heap.size + 2) w1 _ HG1.out (HX2.out) (own_leafT Hsz.out.1.1) (by omega) (by simp) (by simp)).mono ?_
  rintro e w3 ⟨rfl, hg3, hbb3, hz3⟩
  have HR3 := Lib.hid (((hbb3 (w.heap.size + 1) (Nat.le_refl _) (by omega)).block w.heap.size (by omega)).trans HR2.out)
  have HB3 := Lib.hid (HB2.out.trans (hbb3 w.heap.size (by omega) (by omega)))
  have z3 := Nat.le_trans z2 hz3
  have HG3 := Lib.hid hg3
  clear hg3 hbb3
  go_wp2_with fail
  refine (c_impl_TextTree kind _).mono ?_
  rintro e w4 ⟨rfl, hb4⟩
  have HR4 := Lib.hid ((hb4.block w.heap.size (by omega)).trans HR3.out)
  have HB4 := Lib.hid (HB3.out.trans (hb4.mono HB3.out.size))
  have z4 := Nat.le_trans z3 hb4.size
  have HX4 := Lib.hid hb4
  clear hb4
  go_wp2_with fail
  refine (c_addKidG (n + 2) _ _ hKind (leafD kind) (leafC kind) (w.heap.size + 1) (w.heap.size + 2) w3 _ HG3.out (HX4.out) (own_leafT Hsz.out.2.1) (by omega) (by simp) (by simp)).mono ?_
  rintro e w5 ⟨rfl, hg5, hbb5, hz5⟩
  have HR5 := Lib.hid (((hbb5 (w.heap.size + 1) (Nat.le_refl _) (by omega)).block w.heap.size (by omega)).trans HR4.out)
  have HB5 := Lib.hid (HB4.out.trans (hbb5 w.heap.size (by omega) (by omega)))
  have z5 := Nat.le_trans z4 hz5
  have HG5 := Lib.hid hg5
  clear hg5 hbb5
  go_upto_if 22 with fail
  go_cut [] from 22 to 25 (fun wx => GMap (n + 2) (w.heap.size + 2) (w.heap.size + 1) wx ([hCpu, hKind] ++ optK (!l.isEmpty) hLabels) ([leafD (amtS cpu), leafD kind] ++ optD (!l.isEmpty) (labelsT l)) ∧ wx.heap[w.heap.size]? = some (.cells #[.int .i64 0, .bool false, .int .i64 0, .string ⟨#[]⟩, .slice none 0 0, .slice none 0 0] 30 (0, 0)) ∧ Below w.heap.size w wx ∧ w.heap.size + 2 ≤ wx.heap.size)
  case first =>
    by_cases h0 : l.length = 0
    · have HE := Lib.hid (emp_no h0)
      have hl0 : ¬ (0 : Int) < l.length := by omega
      clear h0
      go_wp2_with fail
      go_meet
      rw [HE.out]
      exact ⟨HG5.out, HR5.out, HB5.out, z5⟩
    · have HE := Lib.hid (emp_yes h0)
      have hl0 : (0 : Int) < l.length := by omega
      clear h0
      go_wp2_with fail
      refine (c_impl_LabelsTree n l _ _ lo (HS.out.keep (same_below HB5.out) (Nat.le_refl _) HB5.out.size)).mono ?_
      rintro e w6 ⟨cs, rfl, hO, hb6⟩
      have HR6 := Lib.hid ((hb6.block w.heap.size (by omega)).trans HR5.out)
      have HB6 := Lib.hid (HB5.out.trans (hb6.mono HB5.out.size))
      have z6 := Nat.le_trans z5 hb6.size
      have HO := Lib.hid hO
      clear hO
      have HX6 := Lib.hid hb6
      clear hb6
      go_wp2_with fail
      refine (c_addKidG (n + 2) _ _ hLabels (labelsT l) cs (w.heap.size + 1) (w.heap.size + 2) w5 _ HG5.out (HX6.out) HO.out (by omega) (by simp) (by simp)).mono ?_
      rintro e w7 ⟨rfl, hg7, hbb7, hz7⟩
      have HR7 := Lib.hid (((hbb7 (w.heap.size + 1) (Nat.le_refl _) (by omega)).block w.heap.size (by omega)).trans HR6.out)
      have HB7 := Lib.hid (HB6.out.trans (hbb7 w.heap.size (by omega) (by omega)))
      have z7 := Nat.le_trans z6 hz7
      have HG7 := Lib.hid hg7
      clear hg7 hbb7
      go_wp2_with fail
      go_meet
      rw [HE.out]
      exact ⟨HG7.out, HR7.out, HB7.out, z7⟩
  case rest =>
    obtain ⟨hG, hR, hB, hz⟩ := hcut
    obtain ⟨w15, hwc⟩ : ∃ x, x = wc := ⟨_, rfl⟩
    rw [← hwc] at hG hR hB hz ⊢
    clear hwc
    have HG15 := Lib.hid hG
    have HR15 := Lib.hid hR
    have HB15 := Lib.hid hB
    have z15 := hz
    have hoK := optK_len (!l.isEmpty) hLabels
    have hoD := optKD (!l.isEmpty) hLabels (labelsT l)
    have HoK := Lib.hid (And.intro hoK hoD)
    clear hG hR hB hz hoK hoD
    go_wp2_with fail
    refine (c_impl_AmountText mem _ Hm.out (Hp.out.below HB15.out)).mono ?_
    rintro e w16 ⟨rfl, hb16⟩
    have HR16 := Lib.hid ((hb16.block w.heap.size (by omega)).trans HR15.out)
    have HB16 := Lib.hid (HB15.out.trans (hb16.mono HB15.out.size))
    have z16 := Nat.le_trans z15 hb16.size
    have HX16 := Lib.hid hb16
    clear hb16
    go_wp2_with fail
    refine (c_impl_TextTree (amtS mem) _).mono ?_
    rintro e w17 ⟨rfl, hb17⟩
    have HR17 := Lib.hid ((hb17.block w.heap.size (by omega)).trans HR16.out)
    have HB17 := Lib.hid (HB16.out.trans (hb17.mono HB16.out.size))
    have z17 := Nat.le_trans z16 hb17.size
    have HX17 := Lib.hid (HX16.out.trans (hb17.mono HX16.out.size))
    clear hb17
    go_wp2_with fail
    refine (c_addKidG (n + 2) _ _ hMem (leafD (amtS mem)) (leafC (amtS mem)) (w.heap.size + 1) (w.heap.size + 2) w15 _ HG15.out (HX17.out) (own_leafT Hsz.out.1.2) (by omega) (by have := HoK.out; simp; omega) (by have := HoK.out; simp; omega)).mono ?_
    rintro e w18 ⟨rfl, hg18, hbb18, hz18⟩
    have HR18 := Lib.hid (((hbb18 (w.heap.size + 1) (Nat.le_refl _) (by omega)).block w.heap.size (by omega)).trans HR17.out)
    have HB18 := Lib.hid (HB17.out.trans (hbb18 w.heap.size (by omega) (by omega)))
    have z18 := Nat.le_trans z17 hz18
    have HG18 := Lib.hid hg18
    clear hg18 hbb18
    go_wp2_with fail
    refine (c_impl_TextTree name _).mono ?_
    rintro e w19 ⟨rfl, hb19⟩
    have HR19 := Lib.hid ((hb19.block w.heap.size (by omega)).trans HR18.out)
    have HB19 := Lib.hid (HB18.out.trans (hb19.mono HB18.out.size))
    have z19 := Nat.le_trans z18 hb19.size
    have HX19 := Lib.hid hb19
    clear hb19
    go_wp2_with fail
    refine (c_addKidG (n + 2) _ _ hName (leafD name) (leafC name) (w.heap.size + 1) (w.heap.size + 2) w18 _ HG18.out (HX19.out) (own_leafT Hsz.out.2.2) (by omega) (by have := HoK.out; simp; omega) (by have := HoK.out; simp; omega)).mono ?_
    rintro e w20 ⟨rfl, hg20, hbb20, hz20⟩
    have HR20 := Lib.hid (((hbb20 (w.heap.size + 1) (Nat.le_refl _) (by omega)).block w.heap.size (by omega)).trans HR19.out)
    have HB20 := Lib.hid (HB19.out.trans (hbb20 w.heap.size (by omega) (by omega)))
    have z20 := Nat.le_trans z19 hz20
    have HG20 := Lib.hid hg20
    clear hg20 hbb20
    obtain ⟨vk, vl, hrow, hgr, -, -⟩ := HG20.out
    obtain ⟨A4, c4, A5, c5, rfl, rfl⟩ := hgr.form
    obtain ⟨x0, x1, x2, x3, x4, x5, xf⟩ := row6 hrow
    obtain ⟨y0, y1, y2, y3, y4, y5, yf⟩ := row6 HR20.out
    have l1 := row_lt hrow
    have l2 := row_lt HR20.out
    have HGR := Lib.hid hgr
    clear hrow hgr
    go_wp2_with fail
    have HK := Lib.hid (show GRow (n + 2) (w.heap.size + 2) (some (w.heap.size + 1)) w20 (headK l) (headT kind name l cpu mem) _ _ by rw [headK_eq, headT_eq]; exact HGR.out)
    exact bodyPost_ret (v := .agg #[.int .i64 6, .bool false, .int .i64 0, .string ⟨#[]⟩, .slice A4 ([hCpu, hKind] ++ optK (!l.isEmpty) hLabels ++ [hMem] ++ [hName]).length c4, .slice A5 ([leafD (amtS cpu), leafD kind] ++ optD (!l.isEmpty) (labelsT l) ++ [leafD (amtS mem)] ++ [leafD name]).length c5]) (by simp only [results, Tryz.results31]; go_simp) rfl (grow_fin (b0 := w.heap.size) (B := w.heap.size) (base := w.heap.size + 2) HK.out (by omega) (by omega) (by repeat (first | (with_reducible exact Aside.refl _ _) | ((with_reducible refine aside_set ?_ ?_); (focus (simp; done))) | (with_reducible refine aside_alloc ?_))) HB20.out l2)
set_option maxHeartbeats 4000000 in
set_option maxRecDepth 20000 in
theorem c_spec_l20Head (n : Nat) (kind name : ByteArray) (l : List Label) (v : Value) (cpu mem : Int) (w : World) (lo : Nat) (hk : kind.size ≤ 9223372036854775807) (hn : name.size ≤ 9223372036854775807) (hs : Sl_Label lo w.heap.size w l v) (hc : -9223372036854775808 ≤ cpu ∧ cpu ≤ 9223372036854775807) (hm : -9223372036854775808 ≤ mem ∧ mem ≤ 9223372036854775807) :
    Calls Tryz.prog 23 #[.string kind, .string name, v, .int .i64 cpu, .int .i64 mem] w fun e w' => ∃ vk vl, e = .returned (.agg #[.int .i64 6, .bool false, .int .i64 0, .string ⟨#[]⟩, vk, vl]) ∧ GRow (n + 2) w.heap.size none w' (headK l) (headT kind name l cpu mem) vk vl ∧ Below w.heap.size w w' := by
  obtain ⟨A, c, rfl⟩ := hs.form
  have HS := Lib.hid hs
  have Hc := Lib.hid hc
  have Hm := Lib.hid hm
  have hac : (amtS cpu).size ≤ 9223372036854775807 := by have := amtS_size cpu hc; omega
  have ham : (amtS mem).size ≤ 9223372036854775807 := by have := amtS_size mem hm; omega
  have Hsz := Lib.hid (And.intro (And.intro hac ham) (And.intro hk hn))
  have Hhd := Lib.hid (head_ok l)
  clear hs hc hm hac ham hk hn
  go_enter Tryz.func23, Tryz.ntmps23
  go_wp2_with fail
  obtain ⟨w1, hW⟩ : ∃ x, x = (w.alloc (.cells #[.int .i64 0, .bool false, .int .i64 0, .string ⟨#[]⟩, .slice none 0 0, .slice none 0 0] 30)).alloc (.cells #[.int .i64 6, .bool false, .int .i64 0, .string ⟨#[]⟩, .slice none 0 0, .slice none 0 0] 30) := ⟨_, rfl⟩
  rw [← hW]
  have HR1 := Lib.hid (show w1.heap[w.heap.size]? = some (.cells #[.int .i64 0, .bool false, .int .i64 0, .string ⟨#[]⟩, .slice none 0 0, .slice none 0 0] 30 (0, 0)) by rw [hW]; exact (Below.heap_alloc _ _ _ (by simp)).trans (heap_at (by simp)))
  have HG1 := Lib.hid (show GMap (n + 2) (w.heap.size + 2) (w.heap.size + 1) w1 [] [] from GMap.nil (by rw [hW]; exact heap_at (by simp)))
  have HB1 := Lib.hid (show Below w.heap.size w w1 by rw [hW]; exact bel)
  have z1 : w.heap.size + 2 ≤ w1.heap.size := by rw [hW]; simp
  clear hW
  go_upto_region 2 with fail
  go_cut [] from 13 to 17 (fun wx => GMap (n + 2) (w.heap.size + 2) (w.heap.size + 1) wx ([hCpu]) ([leafD (amtS cpu)]) ∧ wx.heap[w.heap.size]? = some (.cells #[.int .i64 0, .bool false, .int .i64 0, .string ⟨#[]⟩, .slice none 0 0, .slice none 0 0] 30 (0, 0)) ∧ Below w.heap.size w wx ∧ w.heap.size + 2 ≤ wx.heap.size)
  case first =>
    obtain ⟨A4, A5, n4, c4, n5, c5, hrow, hgr, -, -⟩ := HG1.out.open
    obtain ⟨x0, x1, x2, x3, x4, x5, xf⟩ := row6 hrow
    have l1 := row_lt hrow
    have lz := row_lt HR1.out
    have HRow := Lib.hid hrow
    have HGr := Lib.hid hgr
    clear hrow hgr
    go_region_law (first | (go_simp; go_at_call 69; refine (c_spec_AmountText cpu _ Hc.out).mono ?_; rintro e wa ⟨rfl, hbwa⟩; have hbwwa : Below w1.heap.size w1 wa := bel; obtain ⟨x0, x1, x2, x3, x4, x5, xf⟩ := row6 ((hbwwa.block (w.heap.size + 1) l1).trans HRow.out); have hszwa := Nat.lt_of_lt_of_le l1 hbwwa.size) | (go_simp; go_at_call 68; refine (c_spec_TextTree (amtS cpu) _).mono ?_; rintro e wb ⟨rfl, hbwb⟩; have hbwwb : Below w1.heap.size w1 wb := bel; obtain ⟨x0, x1, x2, x3, x4, x5, xf⟩ := row6 ((hbwwb.block (w.heap.size + 1) l1).trans HRow.out); have hszwb := Nat.lt_of_lt_of_le l1 hbwwb.size) | (go_simp; go_at_call 24; refine (c_l20PutG (n + 2) _ _ hCpu (leafD (amtS cpu)) (leafC (amtS cpu)) _ _ (w.heap.size + 2) (some (w.heap.size + 1)) w1 _ HGr.out bel (own_leafT Hsz.out.1.1) (fun q e => by injection e with e; omega) (by omega) rfl (by intro x hx; simp at hx) (by intro x hx; simp at hx) (by decide)).mono ?_; rintro e wB ⟨E4, E5, m4, d4, m5, d5, rfl, hg, e1, e2, hbB⟩; have hBW : Below w1.heap.size w1 wB := bel; have T1 := (hBW.block (w.heap.size + 1) l1).trans HRow.out; have Z1 := (hBW.block w.heap.size lz).trans HR1.out; obtain ⟨y0, y1, y2, y3, y4, y5, yf⟩ := row6 T1; have l2 := row_lt T1; have lz2 := row_lt Z1))
    all_goals
      have n1 : (Value.slice E4 m4 d4).ownBlock ≠ some (w.heap.size + 1) := fun e => by have := e1 _ e; (try simp at this); omega
      have n2 : (Value.slice E5 m5 d5).ownBlock ≠ some (w.heap.size + 1) := fun e => by have := e2 _ e; (try simp at this); omega
      have HT1 := Lib.hid T1
      have HZ1 := Lib.hid Z1
      have Hg := Lib.hid hg
      have HbW := Lib.hid hBW
      clear y0 y1 y2 y3 y4 y5 yf T1 Z1 hg e1 e2
      (try go_wp2_with fail)
      go_meet
      have hF : Aside (fun b => b = (w.heap.size + 1)) wB _ := set6_aside wB (w.heap.size + 1) (.slice E4 m4 d4) (.slice E5 m5 d5)
      exact ⟨GMap.of_put Hg.out hF (six_set _ _ _ _ _ _ HT1.out) n1 n2, (hF.block w.heap.size lz2 (by omega)).trans HZ1.out, (HB1.out.trans (HbW.out.mono HB1.out.size)).trans (hF.below (HB1.out.trans (HbW.out.mono HB1.out.size)).size (fun i hi => by omega)), Nat.le_trans (Nat.le_trans z1 HbW.out.size) hF.size⟩
  case rest =>
    obtain ⟨hG, hR, hB, hz⟩ := hcut
    have HG2 := Lib.hid hG
    have HR2 := Lib.hid hR
    have HB2 := Lib.hid hB
    have z2 := hz
    obtain ⟨w2, hw2⟩ : ∃ x, x = wc := ⟨_, rfl⟩
    rw [← hw2] at HG2 HR2 HB2 z2 ⊢
    clear hG hR hB hz hw2
    go_upto_region 3 with fail
    go_cut [] from 18 to 21 (fun wx => GMap (n + 2) (w.heap.size + 2) (w.heap.size + 1) wx ([hCpu, hKind]) ([leafD (amtS cpu), leafD kind]) ∧ wx.heap[w.heap.size]? = some (.cells #[.int .i64 0, .bool false, .int .i64 0, .string ⟨#[]⟩, .slice none 0 0, .slice none 0 0] 30 (0, 0)) ∧ Below w.heap.size w wx ∧ w.heap.size + 2 ≤ wx.heap.size)
    case first =>
      obtain ⟨A4, A5, n4, c4, n5, c5, hrow, hgr, -, -⟩ := HG2.out.open
      obtain ⟨x0, x1, x2, x3, x4, x5, xf⟩ := row6 hrow
      have l1 := row_lt hrow
      have lz := row_lt HR2.out
      have HRow := Lib.hid hrow
      have HGr := Lib.hid hgr
      clear hrow hgr
      go_region_law (first | (go_simp; go_at_call 68; refine (c_spec_TextTree kind _).mono ?_; rintro e wb ⟨rfl, hbwb⟩; have hbwwb : Below w2.heap.size w2 wb := bel; obtain ⟨x0, x1, x2, x3, x4, x5, xf⟩ := row6 ((hbwwb.block (w.heap.size + 1) l1).trans HRow.out); have hszwb := Nat.lt_of_lt_of_le l1 hbwwb.size) | (go_simp; go_at_call 24; refine (c_l20PutG (n + 2) _ _ hKind (leafD kind) (leafC kind) _ _ (w.heap.size + 2) (some (w.heap.size + 1)) w2 _ HGr.out bel (own_leafT Hsz.out.2.1) (fun q e => by injection e with e; omega) (by omega) rfl (by intro x hx; simp at hx; subst hx; decide) (by intro x hx; simp at hx; subst hx; exact lt_cpu_kind) (by decide)).mono ?_; rintro e wB ⟨E4, E5, m4, d4, m5, d5, rfl, hg, e1, e2, hbB⟩; have hBW : Below w2.heap.size w2 wB := bel; have T1 := (hBW.block (w.heap.size + 1) l1).trans HRow.out; have Z1 := (hBW.block w.heap.size lz).trans HR2.out; obtain ⟨y0, y1, y2, y3, y4, y5, yf⟩ := row6 T1; have l2 := row_lt T1; have lz2 := row_lt Z1))
      all_goals
        have n1 : (Value.slice E4 m4 d4).ownBlock ≠ some (w.heap.size + 1) := fun e => by have := e1 _ e; (try simp at this); omega
        have n2 : (Value.slice E5 m5 d5).ownBlock ≠ some (w.heap.size + 1) := fun e => by have := e2 _ e; (try simp at this); omega
        have HT1 := Lib.hid T1
        have HZ1 := Lib.hid Z1
        have Hg := Lib.hid hg
        have HbW := Lib.hid hBW
        clear y0 y1 y2 y3 y4 y5 yf T1 Z1 hg e1 e2
        (try go_wp2_with fail)
        go_meet
        have hF : Aside (fun b => b = (w.heap.size + 1)) wB _ := set6_aside wB (w.heap.size + 1) (.slice E4 m4 d4) (.slice E5 m5 d5)
        exact ⟨GMap.of_put Hg.out hF (six_set _ _ _ _ _ _ HT1.out) n1 n2, (hF.block w.heap.size lz2 (by omega)).trans HZ1.out, (HB2.out.trans (HbW.out.mono HB2.out.size)).trans (hF.below (HB2.out.trans (HbW.out.mono HB2.out.size)).size (fun i hi => by omega)), Nat.le_trans (Nat.le_trans z2 HbW.out.size) hF.size⟩
    case rest =>
      obtain ⟨hG, hR, hB, hz⟩ := hcut
      have HG3 := Lib.hid hG
      have HR3 := Lib.hid hR
      have HB3 := Lib.hid hB
      have z3 := hz
      obtain ⟨w3, hw3⟩ : ∃ x, x = wc := ⟨_, rfl⟩
      rw [← hw3] at HG3 HR3 HB3 z3 ⊢
      clear hG hR hB hz hw3
      go_upto_if 24 with fail
      go_cut [] from 24 to 28 (fun wx => GMap (n + 2) (w.heap.size + 2) (w.heap.size + 1) wx ([hCpu, hKind] ++ optK (!l.isEmpty) hLabels) ([leafD (amtS cpu), leafD kind] ++ optD (!l.isEmpty) (labelsT l)) ∧ wx.heap[w.heap.size]? = some (.cells #[.int .i64 0, .bool false, .int .i64 0, .string ⟨#[]⟩, .slice none 0 0, .slice none 0 0] 30 (0, 0)) ∧ Below w.heap.size w wx ∧ w.heap.size + 2 ≤ wx.heap.size)
      case first =>
        by_cases h0 : l.length = 0
        · have HE := Lib.hid (emp_no h0)
          have hl0 : ¬ (0 : Int) < l.length := by omega
          clear h0
          go_wp2_with fail
          go_meet
          rw [HE.out]
          exact ⟨HG3.out, HR3.out, HB3.out, z3⟩
        · have HE := Lib.hid (emp_yes h0)
          have hl0 : (0 : Int) < l.length := by omega
          clear h0
          obtain ⟨A4, A5, n4, c4, n5, c5, hrow, hgr, -, -⟩ := HG3.out.open
          obtain ⟨x0, x1, x2, x3, x4, x5, xf⟩ := row6 hrow
          have l1 := row_lt hrow
          have lz := row_lt HR3.out
          have HRow := Lib.hid hrow
          have HGr := Lib.hid hgr
          clear hrow hgr
          go_wp2_with fail
          go_region_law (first | (go_simp; go_at_call 70; refine (c_spec_LabelsTree n l _ _ lo (HS.out.keep (same_below (Below.trans HB3.out (Below.mono (bel : Below w3.heap.size w3 _) HB3.out.size))) (Nat.le_refl _) (Below.size (Below.trans HB3.out (Below.mono (bel : Below w3.heap.size w3 _) HB3.out.size))))).mono ?_; rintro e wa ⟨cs, rfl, hO, hbwa⟩; have hbwwa : Below w3.heap.size w3 wa := bel; obtain ⟨x0, x1, x2, x3, x4, x5, xf⟩ := row6 ((hbwwa.block (w.heap.size + 1) l1).trans HRow.out); have hszwa := Nat.lt_of_lt_of_le l1 hbwwa.size) | (go_simp; go_at_call 24; refine (c_l20PutG (n + 2) _ _ hLabels (labelsT l) cs _ _ (w.heap.size + 2) (some (w.heap.size + 1)) w3 _ HGr.out bel (hO.carry (fun b hb => rfl) (fun b hb => hb)) (fun q e => by injection e with e; omega) (by omega) rfl (by intro x hx; simp at hx; rcases hx with rfl | rfl <;> decide) (by intro x hx; simp at hx; rcases hx with rfl | rfl; exact lt_cpu_labels; exact lt_kind_labels) (by decide)).mono ?_; rintro e wB ⟨E4, E5, m4, d4, m5, d5, rfl, hg, e1, e2, hbB⟩; have hBW : Below w3.heap.size w3 wB := bel; have T1 := (hBW.block (w.heap.size + 1) l1).trans HRow.out; have Z1 := (hBW.block w.heap.size lz).trans HR3.out; obtain ⟨y0, y1, y2, y3, y4, y5, yf⟩ := row6 T1; have l2 := row_lt T1; have lz2 := row_lt Z1))
          all_goals
            have n1 : (Value.slice E4 m4 d4).ownBlock ≠ some (w.heap.size + 1) := fun e => by have := e1 _ e; (try simp at this); omega
            have n2 : (Value.slice E5 m5 d5).ownBlock ≠ some (w.heap.size + 1) := fun e => by have := e2 _ e; (try simp at this); omega
            have HT1 := Lib.hid T1
            have HZ1 := Lib.hid Z1
            have Hg := Lib.hid hg
            have HbW := Lib.hid hBW
            clear y0 y1 y2 y3 y4 y5 yf T1 Z1 hg e1 e2
            (try go_wp2_with fail)
            go_meet
            rw [HE.out]
            have hF : Aside (fun b => b = (w.heap.size + 1)) wB _ := set6_aside wB (w.heap.size + 1) (.slice E4 m4 d4) (.slice E5 m5 d5)
            exact ⟨GMap.of_put Hg.out hF (six_set _ _ _ _ _ _ HT1.out) n1 n2, (hF.block w.heap.size lz2 (by omega)).trans HZ1.out, (HB3.out.trans (HbW.out.mono HB3.out.size)).trans (hF.below (HB3.out.trans (HbW.out.mono HB3.out.size)).size (fun i hi => by omega)), Nat.le_trans (Nat.le_trans z3 HbW.out.size) hF.size⟩
      case rest =>
        obtain ⟨hG, hR, hB, hz⟩ := hcut
        have HG4 := Lib.hid hG
        have HR4 := Lib.hid hR
        have HB4 := Lib.hid hB
        have z4 := hz
        obtain ⟨w4, hw4⟩ : ∃ x, x = wc := ⟨_, rfl⟩
        rw [← hw4] at HG4 HR4 HB4 z4 ⊢
        clear hG hR hB hz hw4
        have hoK := optK_len (!l.isEmpty) hLabels
        have hoD := optKD (!l.isEmpty) hLabels (labelsT l)
        have HoK := Lib.hid (And.intro hoK hoD)
        clear hoK hoD
        go_upto_region 6 with fail
        go_cut [] from 29 to 33 (fun wx => GMap (n + 2) (w.heap.size + 2) (w.heap.size + 1) wx ([hCpu, hKind] ++ optK (!l.isEmpty) hLabels ++ [hMem]) ([leafD (amtS cpu), leafD kind] ++ optD (!l.isEmpty) (labelsT l) ++ [leafD (amtS mem)]) ∧ wx.heap[w.heap.size]? = some (.cells #[.int .i64 0, .bool false, .int .i64 0, .string ⟨#[]⟩, .slice none 0 0, .slice none 0 0] 30 (0, 0)) ∧ Below w.heap.size w wx ∧ w.heap.size + 2 ≤ wx.heap.size)
        case first =>
          obtain ⟨A4, A5, n4, c4, n5, c5, hrow, hgr, -, -⟩ := HG4.out.open
          obtain ⟨x0, x1, x2, x3, x4, x5, xf⟩ := row6 hrow
          have l1 := row_lt hrow
          have lz := row_lt HR4.out
          have HRow := Lib.hid hrow
          have HGr := Lib.hid hgr
          clear hrow hgr
          go_region_law (first | (go_simp; go_at_call 69; refine (c_spec_AmountText mem _ Hm.out).mono ?_; rintro e wa ⟨rfl, hbwa⟩; have hbwwa : Below w4.heap.size w4 wa := bel; obtain ⟨x0, x1, x2, x3, x4, x5, xf⟩ := row6 ((hbwwa.block (w.heap.size + 1) l1).trans HRow.out); have hszwa := Nat.lt_of_lt_of_le l1 hbwwa.size) | (go_simp; go_at_call 68; refine (c_spec_TextTree (amtS mem) _).mono ?_; rintro e wb ⟨rfl, hbwb⟩; have hbwwb : Below w4.heap.size w4 wb := bel; obtain ⟨x0, x1, x2, x3, x4, x5, xf⟩ := row6 ((hbwwb.block (w.heap.size + 1) l1).trans HRow.out); have hszwb := Nat.lt_of_lt_of_le l1 hbwwb.size) | (go_simp; go_at_call 24; refine (c_l20PutG (n + 2) _ _ hMem (leafD (amtS mem)) (leafC (amtS mem)) _ _ (w.heap.size + 2) (some (w.heap.size + 1)) w4 _ HGr.out bel (own_leafT Hsz.out.1.2) (fun q e => by injection e with e; omega) (by omega) (by have := HoK.out; simp; omega) (by intro x hx; exact Hhd.out x (by unfold headK; simp at hx ⊢; rcases hx with h | h | h <;> simp [h])) (by intro x hx; simp at hx; rcases hx with rfl | rfl | h; exact lt_cpu_mem; exact lt_kind_mem; unfold optK at h; split at h; (simp at h; subst h; exact lt_labels_mem); cases h) (by have := HoK.out; simp; omega)).mono ?_; rintro e wB ⟨E4, E5, m4, d4, m5, d5, rfl, hg, e1, e2, hbB⟩; have hBW : Below w4.heap.size w4 wB := bel; have T1 := (hBW.block (w.heap.size + 1) l1).trans HRow.out; have Z1 := (hBW.block w.heap.size lz).trans HR4.out; obtain ⟨y0, y1, y2, y3, y4, y5, yf⟩ := row6 T1; have l2 := row_lt T1; have lz2 := row_lt Z1))
          all_goals
            have n1 : (Value.slice E4 m4 d4).ownBlock ≠ some (w.heap.size + 1) := fun e => by have := e1 _ e; (try simp at this); omega
            have n2 : (Value.slice E5 m5 d5).ownBlock ≠ some (w.heap.size + 1) := fun e => by have := e2 _ e; (try simp at this); omega
            have HT1 := Lib.hid T1
            have HZ1 := Lib.hid Z1
            have Hg := Lib.hid hg
            have HbW := Lib.hid hBW
            clear y0 y1 y2 y3 y4 y5 yf T1 Z1 hg e1 e2
            (try go_wp2_with fail)
            go_meet
            have hF : Aside (fun b => b = (w.heap.size + 1)) wB _ := set6_aside wB (w.heap.size + 1) (.slice E4 m4 d4) (.slice E5 m5 d5)
            exact ⟨GMap.of_put Hg.out hF (six_set _ _ _ _ _ _ HT1.out) n1 n2, (hF.block w.heap.size lz2 (by omega)).trans HZ1.out, (HB4.out.trans (HbW.out.mono HB4.out.size)).trans (hF.below (HB4.out.trans (HbW.out.mono HB4.out.size)).size (fun i hi => by omega)), Nat.le_trans (Nat.le_trans z4 HbW.out.size) hF.size⟩
        case rest =>
          obtain ⟨hG, hR, hB, hz⟩ := hcut
          have HG5 := Lib.hid hG
          have HR5 := Lib.hid hR
          have HB5 := Lib.hid hB
          have z5 := hz
          obtain ⟨w5, hw5⟩ : ∃ x, x = wc := ⟨_, rfl⟩
          rw [← hw5] at HG5 HR5 HB5 z5 ⊢
          clear hG hR hB hz hw5
          go_upto_region 7 with fail
          go_cut [] from 34 to 37 (fun wx => ∃ (A4 A5 : Option Addr) (n4 c4 n5 c5 : Nat), wx.heap[w.heap.size]? = some (.cells #[.int .i64 6, .bool false, .int .i64 0, .string ⟨#[]⟩, .slice A4 n4 c4, .slice A5 n5 c5] 30 (0, 0)) ∧ GRow (n + 2) w.heap.size none wx (headK l) (headT kind name l cpu mem) (.slice A4 n4 c4) (.slice A5 n5 c5) ∧ Below w.heap.size w wx)
          case first =>
            obtain ⟨A4, A5, n4, c4, n5, c5, hrow, hgr, -, -⟩ := HG5.out.open
            obtain ⟨x0, x1, x2, x3, x4, x5, xf⟩ := row6 hrow
            have l1 := row_lt hrow
            have lz := row_lt HR5.out
            have HRow := Lib.hid hrow
            have HGr := Lib.hid hgr
            clear hrow hgr
            go_region_law (first | (go_simp; go_at_call 68; refine (c_spec_TextTree name _).mono ?_; rintro e wb ⟨rfl, hbwb⟩; have hbwwb : Below w5.heap.size w5 wb := bel; obtain ⟨x0, x1, x2, x3, x4, x5, xf⟩ := row6 ((hbwwb.block (w.heap.size + 1) l1).trans HRow.out); have hszwb := Nat.lt_of_lt_of_le l1 hbwwb.size) | (go_simp; go_at_call 24; refine (c_l20PutG (n + 2) _ _ hName (leafD name) (leafC name) _ _ (w.heap.size + 2) (some (w.heap.size + 1)) w5 _ HGr.out bel (own_leafT Hsz.out.2.2) (fun q e => by injection e with e; omega) (by omega) (by have := HoK.out; simp; omega) (by intro x hx; exact Hhd.out x (by unfold headK; simp at hx ⊢; rcases hx with h | h | h | h <;> simp [h])) (by intro x hx; simp at hx; rcases hx with rfl | rfl | h | rfl; exact lt_cpu_name; exact lt_kind_name; (unfold optK at h; split at h; (simp at h; subst h; exact lt_labels_name); cases h); exact lt_mem_name) (by have := HoK.out; simp; omega)).mono ?_; rintro e wB ⟨E4, E5, m4, d4, m5, d5, rfl, hg, e1, e2, hbB⟩; have hBW : Below w5.heap.size w5 wB := bel; have T1 := (hBW.block (w.heap.size + 1) l1).trans HRow.out; have Z1 := (hBW.block w.heap.size lz).trans HR5.out; obtain ⟨y0, y1, y2, y3, y4, y5, yf⟩ := row6 Z1; have l2 := row_lt T1; have lz2 := row_lt Z1))
            all_goals
              have HZ1 := Lib.hid Z1
              have Hg := Lib.hid hg
              have HbW := Lib.hid hBW
              clear y0 y1 y2 y3 y4 y5 yf T1 Z1 hg e1 e2
              (try go_wp2_with fail)
              go_meet
              have hF : Aside (fun b => b = w.heap.size) wB _ := set6_aside wB w.heap.size (.slice E4 m4 d4) (.slice E5 m5 d5)
              rw [headK_eq, headT_eq]
              exact ⟨E4, E5, m4, d4, m5, d5, six_set _ _ _ _ _ _ HZ1.out, GRow.less (base := w.heap.size + 2) (GRow.carry Hg.out.free hF.size (fun q q1 q2 => hF.block q q2 (by omega))) (by omega), (HB5.out.trans (HbW.out.mono HB5.out.size)).trans (hF.below (HB5.out.trans (HbW.out.mono HB5.out.size)).size (fun i hi => by omega))⟩
          case rest =>
            obtain ⟨A4, A5, n4, c4, n5, c5, hrow, hgr, hB⟩ := hcut
            obtain ⟨x0, x1, x2, x3, x4, x5, xf⟩ := row6 hrow
            have HGr := Lib.hid hgr
            have HBe := Lib.hid hB
            clear hgr hB
            go_wp2_with fail
            exact bodyPost_ret (v := .agg #[.int .i64 6, .bool false, .int .i64 0, .string ⟨#[]⟩, .slice A4 n4 c4, .slice A5 n5 c5]) (by simp only [results, Tryz.results23]; go_simp) rfl ⟨_, _, rfl, HGr.out, HBe.out⟩
end Go.Proofs.YteecgklmdfockaaGreatDoor
namespace Go.Proofs.YteecgklmdfockaaGreatDoor
open Go.RowKit
def lstD (l : List TreeD) : TreeD := ⟨5, false, 0, ⟨#[]⟩, [], l⟩
def tolTD (d : Tolerance) : TreeD := tolT d.key d.equal d.value d.effect
theorem own_lstD {n base hi : Nat} {w wF : World} {l : List TreeD} {v : Value} {S : Nat → Prop} (h : GrowK n base hi w l v) (hF : ∀ q, base ≤ q → q < hi → wF.heap[q]? = w.heap[q]?) (hS : ∀ b, base ≤ b → b < hi → S b) :
    OwnT (n + 1) S wF (lstD l) [.int .i64 5, .bool false, .int .i64 0, .string ⟨#[]⟩, .slice none 0 0, v] :=
  OwnT.into ⟨_, _, fun _ => False, fun b => base ≤ b ∧ b < hi, rfl, (show I64 5 from by unfold I64; decide), (show I64 0 from by unfold I64; decide), (show ByteArray.size ⟨#[]⟩ ≤ 9223372036854775807 from by decide), fun _ h => h.elim, fun b hb => hS b hb.1 hb.2,
    ⟨none, 0, rfl, Nat.le_refl _, by decide, fun h => by simp [lstD] at h⟩, h.own.keep (fun b hb => hF b hb.1 hb.2) (fun _ h => h)⟩
set_option maxHeartbeats 4000000 in
set_option maxRecDepth 20000 in
theorem c_listOf_Tolerance (n : Nat) (l : List Tolerance) (v : Value) (w : World) (lo : Nat) (hs : Sl_Tolerance lo w.heap.size w l v) (hn : l.length ≤ 1048576) :
    Calls Tryz.prog 56 #[v, .func (.func 57) #[] #[]] w fun e w' => ∃ cs, e = .returned (.agg cs.toArray) ∧ OwnT (n + 2 + 1) (fun b => w.heap.size ≤ b ∧ b < w'.heap.size) w' (lstD (l.map tolTD)) cs ∧ Below w.heap.size w w' := by
  obtain ⟨i0, hi, hz0, hz1, hz2⟩ := info_parts (show (Tryz.prog.info? 30).map (fun i => (i.zero, i.size, i.bytes)) = some (some (.agg #[.int .i64 0, .bool false, .int .i64 0, .string ⟨#[]⟩, .slice none 0 0, .slice none 0 0]), 6, 88) from by kernel_rfl)
  obtain ⟨A, c, rfl, hlc, hcc, hA⟩ := hs
  go_enter Tryz.func56, Tryz.ntmps56
  go_wp2_with fail
  go_loopw [11] (fun i wr => ∃ (k : Nat) (K : Option Addr) (c5 : Nat), k ≤ l.length ∧ i = .int .i64 k ∧ wr.heap[w.heap.size + 1]? = some (.cells #[.int .i64 5, .bool false, .int .i64 0, .string ⟨#[]⟩, .slice none 0 0, .slice K k c5] 30 (0, 0)) ∧ wr.heap[w.heap.size]? = some (.cells #[.int .i64 0, .bool false, .int .i64 0, .string ⟨#[]⟩, .slice none 0 0, .slice none 0 0] 30 (0, 0)) ∧ GrowK (n + 2) (w.heap.size + 2) wr.heap.size wr ((l.take k).map tolTD) (.slice K k c5) ∧ Below w.heap.size w wr) (fun i _ => l.length - (intOf i).toNat)
  case atStart => exact ⟨0, none, 0, Nat.zero_le _, rfl, heap_at (by simp), (Below.heap_alloc _ _ _ (by simp)).trans (heap_at (by simp)), GrowK.nil _ _ _ _, bel⟩
  case round =>
    obtain ⟨k, K, c5, hk, rfl, hT1, hZ1, hgk, hbr⟩ := hrel
    have tl := row_lt hT1
    have zl := row_lt hZ1
    have RT := Lib.hid hT1
    have RZ := Lib.hid hZ1
    have Hg := Lib.hid hgk
    have HBr := Lib.hid hbr
    have hbs := hbr.size
    by_cases hlt : k < l.length
    · obtain ⟨b, o, rfl, -, hb2, hcell⟩ := hA (by omega)
      obtain ⟨d, hd⟩ := exists_at hlt
      obtain ⟨es, -, hcs, hC⟩ := hcell k d hd
      obtain ⟨rfl, q1, q2, -⟩ := hC
      have HC := Lib.hid (And.intro q1 q2)
      have hc0 := (hbr.cell (p := ⟨b, o + k * 4 + 0, none⟩) (by simp; omega)).trans (hcs 0 (by omega))
      have hc1 := (hbr.cell (p := ⟨b, o + k * 4 + 1, none⟩) (by simp; omega)).trans (hcs 1 (by omega))
      have hc2 := (hbr.cell (p := ⟨b, o + k * 4 + 2, none⟩) (by simp; omega)).trans (hcs 2 (by omega))
      have hc3 := (hbr.cell (p := ⟨b, o + k * 4 + 3, none⟩) (by simp; omega)).trans (hcs 3 (by omega))
      simp at hc0 hc1 hc2 hc3
      have hbl : b < wr.heap.size := Nat.lt_of_lt_of_le hb2 hbr.size
      have hk0 : (0 : Int) ≤ k := by omega
      have hk1 : (k : Int) < l.length := by omega
      have Htk := Lib.hid (show (l.take (k + 1)).map tolTD = (l.take k).map tolTD ++ [tolTD d] by rw [List.take_add_one, hd]; simp)
      have Hlen := Lib.hid (show ((l.take k).map tolTD).length = k by rw [List.length_map, List.length_take]; omega)
      clear hcs hcell hA hd hT1 hZ1 hgk hbr q1 q2
      go_wp2_with fail
      obtain ⟨w4, hW⟩ : ∃ x, x = wr.alloc (.cells #[.string d.key, .bool d.equal, .string d.value, .int .i64 d.effect] 87) := ⟨_, rfl⟩
      rw [← hW]
      have hb4 : Below wr.heap.size wr w4 := by rw [hW]; exact bel
      have hz4 : w4.heap.size = wr.heap.size + 1 := by rw [hW]; simp
      have X4 : w4.heap[wr.heap.size]? = some (.cells #[.string d.key, .bool d.equal, .string d.value, .int .i64 d.effect] 87 (0, 0)) := by rw [hW]; exact heap_at rfl
      have RT4 := Lib.hid ((hb4.block _ tl).trans RT.out)
      have RZ4 := Lib.hid ((hb4.block _ zl).trans RZ.out)
      have HB4 := Lib.hid (HBr.out.trans (hb4.mono HBr.out.size))
      have HG4 := Lib.hid (Hg.out.carry (Nat.le_refl _) (fun g _ hg => hb4.block g hg) : GrowK (n + 2) (w.heap.size + 2) wr.heap.size w4 _ _)
      clear hW hc0 hc1 hc2 hc3
      obtain ⟨t0, t1, t2, t3, t4, t5, tf⟩ := row6 RT4.out
      obtain ⟨v0, v1, v2, v3, vf⟩ := row4 X4
      have tl4 := row_lt RT4.out
      have xl4 := row_lt X4
      obtain ⟨ess, F, e1, e2, e3, e4, e5, e6, e7⟩ := HG4.out
      rw [Hlen.out] at e3
      have HO := Lib.hid e3
      obtain ⟨r, hr⟩ : ∃ r, r = (Value.slice K k c5).ownBlock := ⟨_, rfl⟩
      have hrl : ∀ q, r = some q → w.heap.size + 2 ≤ q ∧ q < wr.heap.size := fun q hq => ⟨(HO.out.lt q (by rw [← hr]; exact hq)).1, e4 q (by rw [← hr]; exact hq)⟩
      have hn0 : r ≠ some w.heap.size := fun h => by have := (hrl _ h).1; omega
      have hn1 : r ≠ some (w.heap.size + 1) := fun h => by have := (hrl _ h).1; omega
      have Hrl := Lib.hid hrl
      have Hr := Lib.hid hr
      have HE := Lib.hid (And.intro e1 (And.intro e2 (And.intro e4 (And.intro e5 (And.intro e6 e7)))))
      have HB4b : Below w.heap.size w w4 := HB4.out
      clear e1 e2 e3 e4 e5 e6 e7 hrl hr hb4 X4
      go_region_law (first | (go_simp; go_at_call 57; refine (c_impl_ToleranceTree n d.key d.equal d.value d.effect _ HC.out.1 HC.out.2).mono ?_; rintro e w9 ⟨cs9, rfl, hO9, hb9⟩; have hO9f := hO9.flat; obtain ⟨f4, g4, f5, g5, rfl, -⟩ := hO9f; obtain ⟨-, -, -, -, -, p5, -⟩ := row6 ((hb9.block (w.heap.size + 1) tl4).trans RT4.out); have p9 : w.heap.size + 1 < w9.heap.size := Nat.lt_of_lt_of_le tl4 hb9.size; have Hone := Lib.hid hO9.one) | (refine step_append_lies _ rfl _ _ 28 rfl (w.heap.size + 2) 30 i0 (.agg #[.int .i64 0, .bool false, .int .i64 0, .string ⟨#[]⟩, .slice none 0 0, .slice none 0 0]) 6 88 Tryz.underlying28 hi hz0 hz1 hz2 rfl (by decide) _ k ess.flatten rfl (own9 HO.out hb9 rfl rfl) ⟨w9.heap.size, 0, none⟩ 1 1 [.int .i64 (tolTD d).kind, .bool (tolTD d).flag, .int .i64 (tolTD d).num, .string (tolTD d).text, .slice f4 (tolTD d).keys.length g4, .slice f5 (tolTD d).kids.length g5] rfl rfl (World.news_of_block (heap_alloc_new w9 _)) Hone.out (by decide) (by unfold maxLen; omega) (by omega) (by have := hb9.size; simp at this ⊢; omega) _ rfl ?_; intro g cap w2 hown2 hgrow2 hat2 hlt2; have hgrow3 := grown_at Hr.out hgrow2; obtain ⟨-, -, -, -, -, q5, qf⟩ := row6 (row9 RT4.out hb9 rfl hgrow2 Hr.out hn1)))
      all_goals
        have hs9 : w4.heap.size ≤ w9.heap.size := hb9.size
        have hB9 : Below w.heap.size w w9 := bel
        have hb49 : ∀ q, q < w4.heap.size → w9.heap[q]? = w4.heap[q]? := fun q hq => hb9.block q hq
        have hB2 := Below.grown (hB9.alloc (by omega) (.cells #[.int .i64 (tolTD d).kind, .bool (tolTD d).flag, .int .i64 (tolTD d).num, .string (tolTD d).text, .slice f4 (tolTD d).keys.length g4, .slice f5 (tolTD d).kids.length g5] 30)) hgrow2 (by simp; omega) (fun q hq => by have := (Hrl.out q (Hr.out.trans hq)).1; omega)
        have RZ2 := row9 RZ4.out hb9 rfl hgrow2 Hr.out hn0
        have RT2 := row9 RT4.out hb9 rfl hgrow2 Hr.out hn1
        obtain ⟨e1, e2, e4, e5, e6, e7⟩ := HE.out
        have Hp := Lib.hid (GrowK.push (hi := wr.heap.size) (w := w9.alloc (.cells #[.int .i64 (tolTD d).kind, .bool (tolTD d).flag, .int .i64 (tolTD d).num, .string (tolTD d).text, .slice f4 (tolTD d).keys.length g4, .slice f5 (tolTD d).kids.length g5] 30)) (S := fun b => wr.heap.size ≤ b ∧ b < w9.heap.size) k Hlen.out (by simp; omega) (hO9.carry (fun b hb => Below.heap_alloc _ _ b hb.2) (fun b hb => by have := hb.1; (try simp at this); exact ⟨by omega, hb.2⟩)) (fun b hb => by simp; omega) (by omega) ess F e1 e2 e4 e5 e6
          (fun i d' es' h1 h2 => (e7 i d' es' h1 h2).carry (fun b hb => (Below.heap_alloc _ _ b (by have := (e5 i b hb).2.1; omega)).trans (hb49 b (by have := (e5 i b hb).2.1; omega))) (fun _ h => h)) hown2 hgrow2 (by rcases hat2 with h | h; exact .inl h; exact .inr (by simp at h ⊢; omega)) hlt2)
        have hs2 := hgrow2.size
        simp at hs2
        clear hgrow2 hgrow3 hown2 hat2 e1 e2 e4 e5 e6 e7 hO9
        go_wp2_with fail
        go_roundw
        case rel => exact ⟨k + 1, some ⟨g, 0, none⟩, cap, by omega, by go_num, heap_setCell_same w2 (w.heap.size + 1) 5 _ _ _ RT2, (Below.heap_setCell _ _ _ _ (by simp; try omega)).trans RZ2, by rw [Htk.out]; exact Hp.out.carry (by simp) (fun q q1 _ => Below.heap_setCell _ _ _ _ (by simp; omega)), Below.setCell hB2 (by simp) _⟩
        case measure => simp [intOf]; omega
    · obtain rfl : k = l.length := by omega
      obtain ⟨z0, z1, z2, z3, z4, z5, zf⟩ := row6 RZ.out
      obtain ⟨t0, t1, t2, t3, t4, t5, tf⟩ := row6 RT.out
      rw [List.take_length] at hgk
      have Hg2 := Lib.hid hgk
      clear hA hgk hT1 hZ1 hbr
      go_wp2_with fail
      exact bodyPost_ret (v := .agg #[.int .i64 5, .bool false, .int .i64 0, .string ⟨#[]⟩, .slice none 0 0, .slice K l.length c5]) (by simp only [results, Tryz.results56]; go_simp) rfl ⟨[.int .i64 5, .bool false, .int .i64 0, .string ⟨#[]⟩, .slice none 0 0, .slice K l.length c5], rfl, own_lstD Hg2.out (fun q q1 q2 => Aside.block (S := fun b => b = w.heap.size) (w := wr) (by repeat (first | (with_reducible exact Aside.refl _ _) | ((with_reducible refine aside_set ?_ ?_); (focus (simp; done))) | (with_reducible refine aside_alloc ?_))) q q2 (by omega)) (fun b q1 q2 => ⟨by omega, Nat.lt_of_lt_of_le q2 (Aside.size (S := fun b => b = w.heap.size) (w := wr) (by repeat (first | (with_reducible exact Aside.refl _ _) | ((with_reducible refine aside_set ?_ ?_); (focus (simp; done))) | (with_reducible refine aside_alloc ?_))))⟩), HBr.out.trans (Aside.below (S := fun b => b = w.heap.size) (a := wr) (by repeat (first | (with_reducible exact Aside.refl _ _) | ((with_reducible refine aside_set ?_ ?_); (focus (simp; done))) | (with_reducible refine aside_alloc ?_))) HBr.out.size (fun i hi => by omega))⟩
set_option maxHeartbeats 4000000 in
set_option maxRecDepth 20000 in
theorem c_listOf_Need (n : Nat) (l : List Need) (v : Value) (w : World) (lo : Nat) (hs : Sl_Need lo w.heap.size w l v) (hn : l.length ≤ 1048576) :
    Calls Tryz.prog 54 #[v, .func (.func 55) #[] #[]] w fun e w' => ∃ cs, e = .returned (.agg cs.toArray) ∧ OwnT (n + 3 + 1) (fun b => w.heap.size ≤ b ∧ b < w'.heap.size) w' (lstD (l.map needT)) cs ∧ Below w.heap.size w w' := by
  obtain ⟨i0, hi, hz0, hz1, hz2⟩ := info_parts (show (Tryz.prog.info? 30).map (fun i => (i.zero, i.size, i.bytes)) = some (some (.agg #[.int .i64 0, .bool false, .int .i64 0, .string ⟨#[]⟩, .slice none 0 0, .slice none 0 0]), 6, 88) from by kernel_rfl)
  obtain ⟨A, c, rfl, hlc, hcc, hA⟩ := hs
  go_enter Tryz.func54, Tryz.ntmps54
  go_wp2_with fail
  go_loopw [11] (fun i wr => ∃ (k : Nat) (K : Option Addr) (c5 : Nat), k ≤ l.length ∧ i = .int .i64 k ∧ wr.heap[w.heap.size + 1]? = some (.cells #[.int .i64 5, .bool false, .int .i64 0, .string ⟨#[]⟩, .slice none 0 0, .slice K k c5] 30 (0, 0)) ∧ wr.heap[w.heap.size]? = some (.cells #[.int .i64 0, .bool false, .int .i64 0, .string ⟨#[]⟩, .slice none 0 0, .slice none 0 0] 30 (0, 0)) ∧ GrowK (n + 3) (w.heap.size + 2) wr.heap.size wr ((l.take k).map needT) (.slice K k c5) ∧ Below w.heap.size w wr) (fun i _ => l.length - (intOf i).toNat)
  case atStart => exact ⟨0, none, 0, Nat.zero_le _, rfl, heap_at (by simp), (Below.heap_alloc _ _ _ (by simp)).trans (heap_at (by simp)), GrowK.nil _ _ _ _, bel⟩
  case round =>
    obtain ⟨k, K, c5, hk, rfl, hT1, hZ1, hgk, hbr⟩ := hrel
    have tl := row_lt hT1
    have zl := row_lt hZ1
    have RT := Lib.hid hT1
    have RZ := Lib.hid hZ1
    have Hg := Lib.hid hgk
    have HBr := Lib.hid hbr
    have hbs := hbr.size
    by_cases hlt : k < l.length
    · obtain ⟨b, o, rfl, -, hb2, hcell⟩ := hA (by omega)
      obtain ⟨d, hd⟩ := exists_at hlt
      obtain ⟨es, -, hcs, hC⟩ := hcell k d hd
      have hC9 := hC
      obtain ⟨ev, rfl, -, -, hva⟩ := hC9
      obtain ⟨eA, ec, rfl⟩ := hva.form
      have HC := Lib.hid hC
      have hc0 := (hbr.cell (p := ⟨b, o + k * 3 + 0, none⟩) (by simp; omega)).trans (hcs 0 (by omega))
      have hc1 := (hbr.cell (p := ⟨b, o + k * 3 + 1, none⟩) (by simp; omega)).trans (hcs 1 (by omega))
      have hc2 := (hbr.cell (p := ⟨b, o + k * 3 + 2, none⟩) (by simp; omega)).trans (hcs 2 (by omega))
      simp at hc0 hc1 hc2
      have hbl : b < wr.heap.size := Nat.lt_of_lt_of_le hb2 hbr.size
      have hk0 : (0 : Int) ≤ k := by omega
      have hk1 : (k : Int) < l.length := by omega
      have Htk := Lib.hid (show (l.take (k + 1)).map needT = (l.take k).map needT ++ [needT d] by rw [List.take_add_one, hd]; simp)
      have Hlen := Lib.hid (show ((l.take k).map needT).length = k by rw [List.length_map, List.length_take]; omega)
      clear hcs hcell hA hd hT1 hZ1 hgk hbr hva hC
      go_wp2_with fail
      obtain ⟨w4, hW⟩ : ∃ x, x = wr.alloc (.cells #[.string d.key, .int .i64 d.op, .slice eA d.values.length ec] 84) := ⟨_, rfl⟩
      rw [← hW]
      have hb4 : Below wr.heap.size wr w4 := by rw [hW]; exact bel
      have hz4 : w4.heap.size = wr.heap.size + 1 := by rw [hW]; simp
      have X4 : w4.heap[wr.heap.size]? = some (.cells #[.string d.key, .int .i64 d.op, .slice eA d.values.length ec] 84 (0, 0)) := by rw [hW]; exact heap_at rfl
      have RT4 := Lib.hid ((hb4.block _ tl).trans RT.out)
      have RZ4 := Lib.hid ((hb4.block _ zl).trans RZ.out)
      have HB4 := Lib.hid (HBr.out.trans (hb4.mono HBr.out.size))
      have HG4 := Lib.hid (Hg.out.carry (Nat.le_refl _) (fun g _ hg => hb4.block g hg) : GrowK (n + 3) (w.heap.size + 2) wr.heap.size w4 _ _)
      clear hW hc0 hc1 hc2
      obtain ⟨t0, t1, t2, t3, t4, t5, tf⟩ := row6 RT4.out
      obtain ⟨v0, v1, v2, vf⟩ := row3 X4
      have tl4 := row_lt RT4.out
      have xl4 := row_lt X4
      obtain ⟨ess, F, e1, e2, e3, e4, e5, e6, e7⟩ := HG4.out
      rw [Hlen.out] at e3
      have HO := Lib.hid e3
      obtain ⟨r, hr⟩ : ∃ r, r = (Value.slice K k c5).ownBlock := ⟨_, rfl⟩
      have hrl : ∀ q, r = some q → w.heap.size + 2 ≤ q ∧ q < wr.heap.size := fun q hq => ⟨(HO.out.lt q (by rw [← hr]; exact hq)).1, e4 q (by rw [← hr]; exact hq)⟩
      have hn0 : r ≠ some w.heap.size := fun h => by have := (hrl _ h).1; omega
      have hn1 : r ≠ some (w.heap.size + 1) := fun h => by have := (hrl _ h).1; omega
      have Hrl := Lib.hid hrl
      have Hr := Lib.hid hr
      have HE := Lib.hid (And.intro e1 (And.intro e2 (And.intro e4 (And.intro e5 (And.intro e6 e7)))))
      have HB4b : Below w.heap.size w w4 := HB4.out
      clear e1 e2 e3 e4 e5 e6 e7 hrl hr hb4 X4
      go_region_law (first | (go_simp; go_at_call 55; refine (c_impl_NeedTree n d [.string d.key, .int .i64 d.op, .slice eA d.values.length ec] _ lo (C_Need.keep HC.out (same_below (bel : Below w.heap.size w _)) (Nat.le_refl _) (Below.size (bel : Below w.heap.size w _)))).mono ?_; rintro e w9 ⟨cs9, rfl, hO9, hb9⟩; have hO9f := hO9.flat; obtain ⟨f4, g4, f5, g5, rfl, -⟩ := hO9f; obtain ⟨-, -, -, -, -, p5, -⟩ := row6 ((hb9.block (w.heap.size + 1) tl4).trans RT4.out); have p9 : w.heap.size + 1 < w9.heap.size := Nat.lt_of_lt_of_le tl4 hb9.size; have Hone := Lib.hid hO9.one) | (refine step_append_lies _ rfl _ _ 28 rfl (w.heap.size + 2) 30 i0 (.agg #[.int .i64 0, .bool false, .int .i64 0, .string ⟨#[]⟩, .slice none 0 0, .slice none 0 0]) 6 88 Tryz.underlying28 hi hz0 hz1 hz2 rfl (by decide) _ k ess.flatten rfl (own9 HO.out hb9 rfl rfl) ⟨w9.heap.size, 0, none⟩ 1 1 [.int .i64 (needT d).kind, .bool (needT d).flag, .int .i64 (needT d).num, .string (needT d).text, .slice f4 (needT d).keys.length g4, .slice f5 (needT d).kids.length g5] rfl rfl (World.news_of_block (heap_alloc_new w9 _)) Hone.out (by decide) (by unfold maxLen; omega) (by omega) (by have := hb9.size; simp at this ⊢; omega) _ rfl ?_; intro g cap w2 hown2 hgrow2 hat2 hlt2; have hgrow3 := grown_at Hr.out hgrow2; obtain ⟨-, -, -, -, -, q5, qf⟩ := row6 (row9 RT4.out hb9 rfl hgrow2 Hr.out hn1)))
      all_goals
        have hs9 : w4.heap.size ≤ w9.heap.size := hb9.size
        have hB9 : Below w.heap.size w w9 := bel
        have hb49 : ∀ q, q < w4.heap.size → w9.heap[q]? = w4.heap[q]? := fun q hq => hb9.block q hq
        have hB2 := Below.grown (hB9.alloc (by omega) (.cells #[.int .i64 (needT d).kind, .bool (needT d).flag, .int .i64 (needT d).num, .string (needT d).text, .slice f4 (needT d).keys.length g4, .slice f5 (needT d).kids.length g5] 30)) hgrow2 (by simp; omega) (fun q hq => by have := (Hrl.out q (Hr.out.trans hq)).1; omega)
        have RZ2 := row9 RZ4.out hb9 rfl hgrow2 Hr.out hn0
        have RT2 := row9 RT4.out hb9 rfl hgrow2 Hr.out hn1
        obtain ⟨e1, e2, e4, e5, e6, e7⟩ := HE.out
        have Hp := Lib.hid (GrowK.push (hi := wr.heap.size) (w := w9.alloc (.cells #[.int .i64 (needT d).kind, .bool (needT d).flag, .int .i64 (needT d).num, .string (needT d).text, .slice f4 (needT d).keys.length g4, .slice f5 (needT d).kids.length g5] 30)) (S := fun b => wr.heap.size ≤ b ∧ b < w9.heap.size) k Hlen.out (by simp; omega) (hO9.carry (fun b hb => Below.heap_alloc _ _ b hb.2) (fun b hb => by have := hb.1; (try simp at this); exact ⟨by omega, hb.2⟩)) (fun b hb => by simp; omega) (by omega) ess F e1 e2 e4 e5 e6
          (fun i d' es' h1 h2 => (e7 i d' es' h1 h2).carry (fun b hb => (Below.heap_alloc _ _ b (by have := (e5 i b hb).2.1; omega)).trans (hb49 b (by have := (e5 i b hb).2.1; omega))) (fun _ h => h)) hown2 hgrow2 (by rcases hat2 with h | h; exact .inl h; exact .inr (by simp at h ⊢; omega)) hlt2)
        have hs2 := hgrow2.size
        simp at hs2
        clear hgrow2 hgrow3 hown2 hat2 e1 e2 e4 e5 e6 e7 hO9
        go_wp2_with fail
        go_roundw
        case rel => exact ⟨k + 1, some ⟨g, 0, none⟩, cap, by omega, by go_num, heap_setCell_same w2 (w.heap.size + 1) 5 _ _ _ RT2, (Below.heap_setCell _ _ _ _ (by simp; try omega)).trans RZ2, by rw [Htk.out]; exact Hp.out.carry (by simp) (fun q q1 _ => Below.heap_setCell _ _ _ _ (by simp; omega)), Below.setCell hB2 (by simp) _⟩
        case measure => simp [intOf]; omega
    · obtain rfl : k = l.length := by omega
      obtain ⟨z0, z1, z2, z3, z4, z5, zf⟩ := row6 RZ.out
      obtain ⟨t0, t1, t2, t3, t4, t5, tf⟩ := row6 RT.out
      rw [List.take_length] at hgk
      have Hg2 := Lib.hid hgk
      clear hA hgk hT1 hZ1 hbr
      go_wp2_with fail
      exact bodyPost_ret (v := .agg #[.int .i64 5, .bool false, .int .i64 0, .string ⟨#[]⟩, .slice none 0 0, .slice K l.length c5]) (by simp only [results, Tryz.results54]; go_simp) rfl ⟨[.int .i64 5, .bool false, .int .i64 0, .string ⟨#[]⟩, .slice none 0 0, .slice K l.length c5], rfl, own_lstD Hg2.out (fun q q1 q2 => Aside.block (S := fun b => b = w.heap.size) (w := wr) (by repeat (first | (with_reducible exact Aside.refl _ _) | ((with_reducible refine aside_set ?_ ?_); (focus (simp; done))) | (with_reducible refine aside_alloc ?_))) q q2 (by omega)) (fun b q1 q2 => ⟨by omega, Nat.lt_of_lt_of_le q2 (Aside.size (S := fun b => b = w.heap.size) (w := wr) (by repeat (first | (with_reducible exact Aside.refl _ _) | ((with_reducible refine aside_set ?_ ?_); (focus (simp; done))) | (with_reducible refine aside_alloc ?_))))⟩), HBr.out.trans (Aside.below (S := fun b => b = w.heap.size) (a := wr) (by repeat (first | (with_reducible exact Aside.refl _ _) | ((with_reducible refine aside_set ?_ ?_); (focus (simp; done))) | (with_reducible refine aside_alloc ?_))) HBr.out.size (fun i hi => by omega))⟩
end Go.Proofs.YteecgklmdfockaaGreatDoor
