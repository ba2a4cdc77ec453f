/- Contracts of the program's SortTaints and SortTolerances: the same as the reference's. No conditions. Written by wip/tools/gensorted.py. -/
import Derived.Test.YtmhlnbihppojmaaOrdT
import Derived.Test.YtmhlnbihppojmaaOrdTol
import Derived.Test.YtmhlnbihppojmaaComp
import Derived.Test.YtmhlnbihppojmaaSortT
namespace Go.Proofs.Ytmhlnbihppojmaa
open Go.RowKit

set_option maxHeartbeats 2000000 in
set_option maxRecDepth 10000 in
theorem c_impl_SortTaints (l : List Taint) (v : Value) (w : World) (lo : Nat) (hs : Sl_Taint lo w.heap.size w l v) (hn : l.length ≤ 1048576) :
    Calls Try.prog 11 #[v] w fun e w' => ∃ A c, e = .returned (.tuple #[.slice A (sortTB l).1.length c, .bool (sortTB l).2]) ∧ RowE encT 3 45 w.heap.size w' (sortTB l).1 (.slice A (sortTB l).1.length c) ∧ Below w.heap.size w w' := by
  have HCd := Lib.hid (Taint_of_ord hs)
  have hs' := hs
  obtain ⟨A, c, rfl, hlc, hc, -⟩ := hs
  have HS := Lib.hid hs'
  clear hs'
  by_cases h40 : (40 : Int) < l.length
  · have Hf := Lib.hid (show sortTB l = (l, false) by unfold sortTB; rw [if_pos (by omega)])
    go_enter Try.func11, Try.ntmps11
    go_wp2_with fail
    refine (c_Clone_Taint l _ _ _ HS.out hn).mono ?_
    rintro e w1 ⟨A1, c1, rfl, hR, hb⟩
    have HR := Lib.hid hR
    clear hR
    go_wp2_with fail
    go_ret2
    exact ⟨A1, c1, by rw [Hf.out]; rfl, by rw [Hf.out]; exact HR.out, hb⟩
  · have h40n : ¬ 40 < l.length := by omega
    have H40 := Lib.hid h40n
    clear h40n
    go_enter Try.func11, Try.ntmps11
    go_wp2_with fail
    refine (c_Clone_Taint l _ _ _ HS.out hn).mono ?_
    rintro e w1 ⟨A1, c1, rfl, hR, hb1⟩
    have HR := Lib.hid hR
    clear hR
    go_wp2_with fail
    refine (c_SortFunc_Taint l _ w.heap.size _ HR.out hn).mono ?_
    rintro e w2 ⟨l2, rfl, hl2, hm2, hp2, hR2, has2⟩
    have hb2 : Below w.heap.size w w2 := hb1.trans (has2.below hb1.size (fun b hb => (World.ownsRow.lt HR.out b hb).1))
    have HE := Lib.hid (comp_is_ord tot_T hp2 hm2)
    have HR2 := Lib.hid hR2
    have HL2 := Lib.hid hl2
    clear hl2 hm2 hp2 hR2 has2
    go_wp2_with fail
    refine (c_Compact_Taint l2 _ w.heap.size _ HR2.out (by rw [HL2.out]; exact hn)).mono ?_
    rintro e w3 ⟨A3, c3, rfl, hR3, has3⟩
    rw [HE.out] at hR3 ⊢
    have hb3 : Below w.heap.size w w3 := hb2.trans (has3.below hb2.size (fun b hb => (World.ownsRow.lt HR2.out b hb).1))
    obtain ⟨O, hO⟩ : ∃ O, O = ordB lessT eqT l := ⟨_, rfl⟩
    rw [← hO] at hR3 ⊢
    have HO := Lib.hid hO
    have HR3 := Lib.hid hR3
    have HSl := Lib.hid (RowE.sl encT_len hR3 (C := C_Taint) (fun d hd => HCd.out d ((ordB_all tot_T l).2 d |>.1 (by rw [← hO]; exact hd))))
    clear hR3 has3 hO
    go_wp2_with fail
    refine (c_impl_TaintsOk O _ _ _ HSl.out).mono ?_
    rintro e w4 ⟨rfl, hb4⟩
    have B4 := hb3.trans (hb4.mono hb3.size)
    rcases ht : taintsB O with _ | _
    · have Hf := Lib.hid (show sortTB l = (l, false) by unfold sortTB; rw [if_neg H40.out, ← HO.out, ht]; rfl)
      go_wp2_with fail
      refine (c_Clone_Taint l _ _ _ (Sl_Taint.now HS.out B4) hn).mono ?_
      rintro e w5 ⟨A5, c5, rfl, hR5, hb5⟩
      have HR5 := Lib.hid (hR5.less B4.size)
      have B5 := B4.trans (hb5.mono B4.size)
      clear hR5
      go_wp2_with fail
      go_ret2
      exact ⟨A5, c5, by rw [Hf.out]; rfl, by rw [Hf.out]; exact HR5.out, B5⟩
    · have Hf := Lib.hid (show sortTB l = (O, true) by unfold sortTB; rw [if_neg H40.out, ← HO.out, ht]; rfl)
      have HR5 := Lib.hid (HR3.out.below hb4)
      go_wp2_with fail
      go_ret2
      exact ⟨A3, c3, by rw [Hf.out]; rfl, by rw [Hf.out]; exact HR5.out, B4⟩
set_option maxHeartbeats 2000000 in
set_option maxRecDepth 10000 in
theorem c_impl_SortTolerances (l : List Tolerance) (v : Value) (w : World) (lo : Nat) (hs : Sl_Tolerance lo w.heap.size w l v) (hn : l.length ≤ 1048576) :
    Calls Try.prog 18 #[v] w fun e w' => ∃ A c, e = .returned (.tuple #[.slice A (sortTolB l).1.length c, .bool (sortTolB l).2]) ∧ RowE encTol 4 47 w.heap.size w' (sortTolB l).1 (.slice A (sortTolB l).1.length c) ∧ Below w.heap.size w w' := by
  have HCd := Lib.hid (Tolerance_of_ord hs)
  have hs' := hs
  obtain ⟨A, c, rfl, hlc, hc, -⟩ := hs
  have HS := Lib.hid hs'
  clear hs'
  by_cases h40 : (40 : Int) < l.length
  · have Hf := Lib.hid (show sortTolB l = (l, false) by unfold sortTolB; rw [if_pos (by omega)])
    go_enter Try.func18, Try.ntmps18
    go_wp2_with fail
    refine (c_Clone_Tolerance l _ _ _ HS.out hn).mono ?_
    rintro e w1 ⟨A1, c1, rfl, hR, hb⟩
    have HR := Lib.hid hR
    clear hR
    go_wp2_with fail
    go_ret2
    exact ⟨A1, c1, by rw [Hf.out]; rfl, by rw [Hf.out]; exact HR.out, hb⟩
  · have h40n : ¬ 40 < l.length := by omega
    have H40 := Lib.hid h40n
    clear h40n
    go_enter Try.func18, Try.ntmps18
    go_wp2_with fail
    refine (c_Clone_Tolerance l _ _ _ HS.out hn).mono ?_
    rintro e w1 ⟨A1, c1, rfl, hR, hb1⟩
    have HR := Lib.hid hR
    clear hR
    go_wp2_with fail
    refine (c_SortFunc_Tolerance l _ w.heap.size _ HR.out hn).mono ?_
    rintro e w2 ⟨l2, rfl, hl2, hm2, hp2, hR2, has2⟩
    have hb2 : Below w.heap.size w w2 := hb1.trans (has2.below hb1.size (fun b hb => (World.ownsRow.lt HR.out b hb).1))
    have HE := Lib.hid (comp_is_ord tot_Tol hp2 hm2)
    have HR2 := Lib.hid hR2
    have HL2 := Lib.hid hl2
    clear hl2 hm2 hp2 hR2 has2
    go_wp2_with fail
    refine (c_Compact_Tolerance l2 _ w.heap.size _ HR2.out (by rw [HL2.out]; exact hn)).mono ?_
    rintro e w3 ⟨A3, c3, rfl, hR3, has3⟩
    rw [HE.out] at hR3 ⊢
    have hb3 : Below w.heap.size w w3 := hb2.trans (has3.below hb2.size (fun b hb => (World.ownsRow.lt HR2.out b hb).1))
    obtain ⟨O, hO⟩ : ∃ O, O = ordB lessTol eqTol l := ⟨_, rfl⟩
    rw [← hO] at hR3 ⊢
    have HO := Lib.hid hO
    have HR3 := Lib.hid hR3
    have HSl := Lib.hid (RowE.sl encTol_len hR3 (C := C_Tolerance) (fun d hd => HCd.out d ((ordB_all tot_Tol l).2 d |>.1 (by rw [← hO]; exact hd))))
    clear hR3 has3 hO
    go_wp2_with fail
    refine (c_impl_TolerancesOk O _ _ _ HSl.out).mono ?_
    rintro e w4 ⟨rfl, hb4⟩
    have B4 := hb3.trans (hb4.mono hb3.size)
    rcases ht : tolsOkB O with _ | _
    · have Hf := Lib.hid (show sortTolB l = (l, false) by unfold sortTolB; rw [if_neg H40.out, ← HO.out, ht]; rfl)
      go_wp2_with fail
      refine (c_Clone_Tolerance l _ _ _ (Sl_Tolerance.now HS.out B4) hn).mono ?_
      rintro e w5 ⟨A5, c5, rfl, hR5, hb5⟩
      have HR5 := Lib.hid (hR5.less B4.size)
      have B5 := B4.trans (hb5.mono B4.size)
      clear hR5
      go_wp2_with fail
      go_ret2
      exact ⟨A5, c5, by rw [Hf.out]; rfl, by rw [Hf.out]; exact HR5.out, B5⟩
    · have Hf := Lib.hid (show sortTolB l = (O, true) by unfold sortTolB; rw [if_neg H40.out, ← HO.out, ht]; rfl)
      have HR5 := Lib.hid (HR3.out.below hb4)
      go_wp2_with fail
      go_ret2
      exact ⟨A3, c3, by rw [Hf.out]; rfl, by rw [Hf.out]; exact HR5.out, B4⟩
end Go.Proofs.Ytmhlnbihppojmaa
