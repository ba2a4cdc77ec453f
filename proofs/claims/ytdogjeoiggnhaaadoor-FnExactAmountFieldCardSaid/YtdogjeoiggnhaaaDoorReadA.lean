/- Contracts of SplitAmount, ReadInt (the program's) and ReadAmount, of both. Conditions: the program's, that the library's table of powers is laid and that strconv.ErrRange holds an error or nil. -/
import Derived.Test.YtdogjeoiggnhaaaDoorUnit
import Derived.Test.YtdogjeoiggnhaaaDoorAtoiC
import Derived.Test.YtdogjeoiggnhaaaDoorReadS
import Derived.Test.YtdogjeoiggnhaaaDoorItoa
namespace Go.Proofs.YtdogjeoiggnhaaaDoor
open Go.RowKit Go.Lib

def figsA (s : ByteArray) : ByteArray := s.extract 0 (digE s 0)
def sufxA (s : ByteArray) : ByteArray := s.extract (digE s 0) s.size
theorem digE0_le (s : ByteArray) : digE s 0 ≤ s.size := (digE_le s 0).2 (Nat.zero_le _)
theorem figsA_size (s : ByteArray) : (figsA s).size = digE s 0 := by
  have := digE0_le s
  unfold figsA
  rw [ByteArray.size_extract]
  omega
theorem figsA_figs (s : ByteArray) : ∀ c ∈ (figsA s).data.toList, figB c := figs_all (digE0_le s) (fun _ h1 h2 => (digE_figs h1 h2).1)
theorem figsA_byte {s : ByteArray} (h : 0 < digE s 0) : (figsA s).get! 0 = s.get! 0 := by
  have h0 := digE0_le s
  have h1 := extract_get s 0 (digE s 0) 0 h0 (by omega)
  have h2 : 0 < (figsA s).size := by rw [figsA_size]; exact h
  have h3 : 0 < (figsA s).data.toList.length := by rw [Array.length_toList]; exact h2
  have h4 : (figsA s).data.toList[0]? = some ((figsA s).get! 0) := by
    rw [List.getElem?_eq_getElem h3, Array.getElem_toList]
    show some ((figsA s).data[0]) = some ((figsA s).data[0]!)
    rw [getElem!_pos (figsA s).data 0 h2]
  unfold figsA at h4 ⊢
  rw [h1] at h4
  simp only [Nat.add_zero, Option.some.injEq] at h4
  exact h4.symm
theorem figsA_nil {s : ByteArray} (h : digE s 0 = 0) : figsA s = ⟨#[]⟩ := by
  have h1 := figsA_size s
  rw [h] at h1
  apply ByteArray.ext
  exact Array.eq_empty_of_size_eq_zero h1
/-- What ReadAmount yields: the number in thousandths, and 0; or 0, and what is wrong. -/
def readA (s : ByteArray) : Int × Int :=
  if 40 < s.size ∨ digE s 0 = 0 ∨ (1 < digE s 0 ∧ byteI s 0 = 48) ∨ unitB (sufxA s) = false then (0, 1)
  else if readOk (figsA s) = true ∧ mulB (readV (figsA s)) (unitV (sufxA s)) = true then (mulV (readV (figsA s)) (unitV (sufxA s)), 0)
  else (0, 2)
theorem readA_form {s : ByteArray} (h : 40 < s.size ∨ digE s 0 = 0 ∨ (1 < digE s 0 ∧ byteI s 0 = 48) ∨ unitB (sufxA s) = false) : readA s = (0, 1) := if_pos h
theorem readA_ok {s : ByteArray} (h : ¬ (40 < s.size ∨ digE s 0 = 0 ∨ (1 < digE s 0 ∧ byteI s 0 = 48) ∨ unitB (sufxA s) = false)) (h1 : readOk (figsA s) = true) (h2 : mulB (readV (figsA s)) (unitV (sufxA s)) = true) : readA s = (mulV (readV (figsA s)) (unitV (sufxA s)), 0) := by
  unfold readA; rw [if_neg h, if_pos ⟨h1, h2⟩]
theorem readA_wide {s : ByteArray} (h : ¬ (40 < s.size ∨ digE s 0 = 0 ∨ (1 < digE s 0 ∧ byteI s 0 = 48) ∨ unitB (sufxA s) = false)) (h1 : ¬ (readOk (figsA s) = true ∧ mulB (readV (figsA s)) (unitV (sufxA s)) = true)) : readA s = (0, 2) := by
  unfold readA; rw [if_neg h, if_neg h1]
theorem readV_range (s : ByteArray) : 0 ≤ readV s ∧ readV s ≤ 9223372036854775807 := by
  unfold readV
  rcases h : readI s with _ | u
  · simp
  · have := (readI_some h).1
    simp only
    omega
theorem readA_range (s : ByteArray) : 0 ≤ (readA s).1 ∧ (readA s).1 ≤ 9223372036854775807 ∧ ((readA s).2 = 0 ∨ (readA s).2 = 1 ∨ (readA s).2 = 2) := by
  unfold readA
  split
  · simp
  · split
    · have := mulV_range (readV (figsA s)) (unitV (sufxA s))
      exact ⟨this.1, this.2, .inl rfl⟩
    · simp
set_option maxHeartbeats 1000000 in
theorem c_impl_SplitAmount (s : ByteArray) (w : World) (hs : s.size ≤ 1048576) :
    Calls Tryd.prog 32 #[.string s] w fun e w' => e = .returned (.tuple #[.string (figsA s), .string (sufxA s)]) ∧ Below w.heap.size w w' := by
  obtain ⟨e0, he0⟩ : ∃ e0, e0 = digE s 0 := ⟨_, rfl⟩
  have hle := digE0_le s
  rw [← he0] at hle
  have HE0 := Lib.hid he0
  have HF := Lib.hid (show figsA s = s.extract 0 e0 ∧ sufxA s = s.extract e0 s.size by rw [he0]; exact ⟨rfl, rfl⟩)
  clear he0
  go_enter Tryd.func32, Tryd.ntmps32
  go_wp2_with fail
  go_loopw [4] (fun s4 wr => ∃ j : Nat, j ≤ e0 ∧ s4 = .int .i64 j ∧ digE s j = e0 ∧ wr = w) (fun s4 _ => s.size - (Lib.intOf s4).toNat)
  case atStart => exact ⟨0, Nat.zero_le _, rfl, HE0.out.symm, rfl⟩
  case round =>
    obtain ⟨j, hje, rfl, hdj, rfl⟩ := hrel
    have HJ := Lib.hid hdj
    clear hdj
    by_cases hjl : (j : Int) < s.size
    · have hjj : j < s.size := by omega
      have hj0 : (0 : Int) ≤ j := by omega
      obtain ⟨c, hc⟩ : ∃ c : Nat, c = (s.get! j).toNat := ⟨_, rfl⟩
      have hxj : (s[j]'hjj).toNat = c := by rw [hc]; exact get_byte s j hjj
      have hbj : byteI s j = c := by unfold byteI; rw [hc]
      have HC := Lib.hid hbj
      have HD := Lib.hid (HJ.out.symm.trans (digE_at hjj))
      clear hc hbj
      rcases hf : digitB (c : Int) with _ | _
      · have HX := Lib.hid (show e0 = j by have h9 := HD.out; rw [HC.out, ← digit_fig, hf, if_neg (by decide)] at h9; exact h9)
        have hse : (j : Int) ≤ s.size := by omega
        go_wp2_with (first | (go_at_call 40; refine (c_impl_isDigit _ _).mono ?_; rintro e w' ⟨rfl, rfl⟩))
        refine wp_region_det 8 (by kernel_rfl) (by kernel_rfl) (by decide) ?_
        apply Exists.intro
        refine And.intro ?_ ?_
        · (intro W hW; (try simp only [Act.put, List.setIfInBounds_toArray, List.set_cons_zero, List.set_cons_succ]); first | (go_wp2_with fail; exact ⟨rfl, rfl, Below.refl _ _⟩))
        apply Exists.intro
        refine And.intro ?_ ?_
        · (intro W hW; (try simp only [Act.put, List.setIfInBounds_toArray, List.set_cons_zero, List.set_cons_succ]); first | (go_wp2_with fail; exact ⟨rfl, rfl, Below.refl _ _⟩))
        apply Exists.intro
        refine And.intro ?_ ?_
        · (intro W hW; (try simp only [Act.put, List.setIfInBounds_toArray, List.set_cons_zero, List.set_cons_succ]); first | (go_wp2_with fail; exact ⟨rfl, rfl, Below.refl _ _⟩))
        apply Exists.intro
        refine And.intro ?_ ?_
        · (intro W hW; (try simp only [Act.put, List.setIfInBounds_toArray, List.set_cons_zero, List.set_cons_succ]); first | (go_wp2_with fail; exact ⟨rfl, rfl, Below.refl _ _⟩))
        apply Exists.intro
        refine And.intro ?_ ?_
        · (intro W hW; (try simp only [Act.put, List.setIfInBounds_toArray, List.set_cons_zero, List.set_cons_succ]); first | (go_wp2_with fail; exact ⟨rfl, rfl, Below.refl _ _⟩))
        apply Exists.intro
        refine And.intro ?_ ?_
        · (intro W hW; (try simp only [Act.put, List.setIfInBounds_toArray, List.set_cons_zero, List.set_cons_succ]); first | (go_wp2_with fail; exact ⟨rfl, rfl, Below.refl _ _⟩))
        apply Exists.intro
        refine And.intro ?_ ?_
        · (intro W hW; (try simp only [Act.put, List.setIfInBounds_toArray, List.set_cons_zero, List.set_cons_succ]); first | (go_wp2_with fail; exact ⟨rfl, rfl, Below.refl _ _⟩))
        apply Exists.intro
        refine And.intro ?_ ?_
        · (intro W hW; (try simp only [Act.put, List.setIfInBounds_toArray, List.set_cons_zero, List.set_cons_succ]); first | (go_wp2_with fail; exact ⟨rfl, rfl, Below.refl _ _⟩))
        intro w1 hb
        (first | (have hcu2 := Cum.join hcu hb; (try clear hcu); (try clear hc); (try clear hfz); (try clear hsz); (try clear hs0); (try clear hs1); (try clear hs2); (try clear hs3); (try clear hs4); ) | have hcu2 := Cum.mk hb); have hcu := hcu2; clear hcu2; obtain ⟨hc, hfz⟩ := bcell hcu.h; have hsz := hcu.h.size; (try simp at hsz); (try have hs0 := lt_of_succ_le hsz); (try (have hs1 := lt_pred hsz; (try (have hs2 := lt_pred hs1; (try (have hs3 := lt_pred hs2; (try have hs4 := lt_pred hs3)))))))
        (try simp only [Act.put, List.setIfInBounds_toArray, List.set_cons_zero, List.set_cons_succ])
        (try simp only [List.drop_succ_cons, List.drop_nil])
        go_wp2_with fail
        go_ret2
        exact ⟨by rw [HF.out.1, HF.out.2, HX.out]; rfl, (by repeat (first | (with_reducible exact Below.refl _ _) | (with_reducible refine ext_alloc ?_) | ((with_reducible refine ext_setCell ?_ ?_); focus (simp; (try omega))) | (with_reducible refine below_drewN ?_ _) | (with_reducible refine Below.drew ?_) | (with_reducible (apply ext_step; assumption))))⟩
      · have HX := Lib.hid (show digE s (j + 1) = e0 by have h9 := HD.out; rw [HC.out, ← digit_fig, hf, if_pos rfl] at h9; exact h9.symm)
        have hle2 := (digE_le s (j + 1)).1
        rw [HX.out] at hle2
        go_wp2_with (first | (go_at_call 40; refine (c_impl_isDigit _ _).mono ?_; rintro e w' ⟨rfl, rfl⟩))
        go_roundw
        case rel => exact ⟨j + 1, hle2, by go_num, HX.out, by first | rfl | exact True.intro⟩
        case measure => simp [Lib.intOf]; omega
    · have HX := Lib.hid (show e0 = j by rw [← HJ.out]; exact digE_end (by omega))
      have hse : (j : Int) ≤ s.size := by omega
      go_wp2_with fail
      refine wp_region_det 8 (by kernel_rfl) (by kernel_rfl) (by decide) ?_
      apply Exists.intro
      refine And.intro ?_ ?_
      · (intro W hW; (try simp only [Act.put, List.setIfInBounds_toArray, List.set_cons_zero, List.set_cons_succ]); first | (go_wp2_with fail; exact ⟨rfl, rfl, Below.refl _ _⟩))
      apply Exists.intro
      refine And.intro ?_ ?_
      · (intro W hW; (try simp only [Act.put, List.setIfInBounds_toArray, List.set_cons_zero, List.set_cons_succ]); first | (go_wp2_with fail; exact ⟨rfl, rfl, Below.refl _ _⟩))
      apply Exists.intro
      refine And.intro ?_ ?_
      · (intro W hW; (try simp only [Act.put, List.setIfInBounds_toArray, List.set_cons_zero, List.set_cons_succ]); first | (go_wp2_with fail; exact ⟨rfl, rfl, Below.refl _ _⟩))
      apply Exists.intro
      refine And.intro ?_ ?_
      · (intro W hW; (try simp only [Act.put, List.setIfInBounds_toArray, List.set_cons_zero, List.set_cons_succ]); first | (go_wp2_with fail; exact ⟨rfl, rfl, Below.refl _ _⟩))
      apply Exists.intro
      refine And.intro ?_ ?_
      · (intro W hW; (try simp only [Act.put, List.setIfInBounds_toArray, List.set_cons_zero, List.set_cons_succ]); first | (go_wp2_with fail; exact ⟨rfl, rfl, Below.refl _ _⟩))
      apply Exists.intro
      refine And.intro ?_ ?_
      · (intro W hW; (try simp only [Act.put, List.setIfInBounds_toArray, List.set_cons_zero, List.set_cons_succ]); first | (go_wp2_with fail; exact ⟨rfl, rfl, Below.refl _ _⟩))
      apply Exists.intro
      refine And.intro ?_ ?_
      · (intro W hW; (try simp only [Act.put, List.setIfInBounds_toArray, List.set_cons_zero, List.set_cons_succ]); first | (go_wp2_with fail; exact ⟨rfl, rfl, Below.refl _ _⟩))
      apply Exists.intro
      refine And.intro ?_ ?_
      · (intro W hW; (try simp only [Act.put, List.setIfInBounds_toArray, List.set_cons_zero, List.set_cons_succ]); first | (go_wp2_with fail; exact ⟨rfl, rfl, Below.refl _ _⟩))
      intro w1 hb
      (first | (have hcu2 := Cum.join hcu hb; (try clear hcu); (try clear hc); (try clear hfz); (try clear hsz); (try clear hs0); (try clear hs1); (try clear hs2); (try clear hs3); (try clear hs4); ) | have hcu2 := Cum.mk hb); have hcu := hcu2; clear hcu2; obtain ⟨hc, hfz⟩ := bcell hcu.h; have hsz := hcu.h.size; (try simp at hsz); (try have hs0 := lt_of_succ_le hsz); (try (have hs1 := lt_pred hsz; (try (have hs2 := lt_pred hs1; (try (have hs3 := lt_pred hs2; (try have hs4 := lt_pred hs3)))))))
      (try simp only [Act.put, List.setIfInBounds_toArray, List.set_cons_zero, List.set_cons_succ])
      (try simp only [List.drop_succ_cons, List.drop_nil])
      go_wp2_with fail
      go_ret2
      exact ⟨by rw [HF.out.1, HF.out.2, HX.out]; rfl, (by repeat (first | (with_reducible exact Below.refl _ _) | (with_reducible refine ext_alloc ?_) | ((with_reducible refine ext_setCell ?_ ?_); focus (simp; (try omega))) | (with_reducible refine below_drewN ?_ _) | (with_reducible refine Below.drew ?_) | (with_reducible (apply ext_step; assumption))))⟩
set_option maxHeartbeats 1000000 in
theorem c_spec_SplitAmount (s : ByteArray) (w : World) (hs : s.size ≤ 1048576) :
    Calls Tryd.prog 27 #[.string s] w fun e w' => e = .returned (.tuple #[.string (figsA s), .string (sufxA s)]) ∧ Below w.heap.size w w' := by
  obtain ⟨e0, he0⟩ : ∃ e0, e0 = digE s 0 := ⟨_, rfl⟩
  have hle := digE0_le s
  rw [← he0] at hle
  have HE0 := Lib.hid he0
  have HF := Lib.hid (show figsA s = s.extract 0 e0 ∧ sufxA s = s.extract e0 s.size by rw [he0]; exact ⟨rfl, rfl⟩)
  clear he0
  go_enter Tryd.func27, Tryd.ntmps27
  go_wp2_with fail
  go_loopw [4] (fun s4 wr => ∃ j : Nat, j ≤ e0 ∧ s4 = .int .i64 j ∧ digE s j = e0 ∧ wr = w) (fun s4 _ => s.size - (Lib.intOf s4).toNat)
  case atStart => exact ⟨0, Nat.zero_le _, rfl, HE0.out.symm, rfl⟩
  case round =>
    obtain ⟨j, hje, rfl, hdj, rfl⟩ := hrel
    have HJ := Lib.hid hdj
    clear hdj
    by_cases hjl : (j : Int) < s.size
    · have hjj : j < s.size := by omega
      have hj0 : (0 : Int) ≤ j := by omega
      obtain ⟨c, hc⟩ : ∃ c : Nat, c = (s.get! j).toNat := ⟨_, rfl⟩
      have hxj : (s[j]'hjj).toNat = c := by rw [hc]; exact get_byte s j hjj
      have hbj : byteI s j = c := by unfold byteI; rw [hc]
      have HC := Lib.hid hbj
      have HD := Lib.hid (HJ.out.symm.trans (digE_at hjj))
      clear hc hbj
      rcases hf : digitB (c : Int) with _ | _
      · have HX := Lib.hid (show e0 = j by have h9 := HD.out; rw [HC.out, ← digit_fig, hf, if_neg (by decide)] at h9; exact h9)
        have hse : (j : Int) ≤ s.size := by omega
        have hno : ((c : Int) < 48) ∨ (¬ ((c : Int) < 48) ∧ (57 : Int) < c) := by unfold digitB at hf; simp at hf; omega
        clear hf
        rcases hno with hno | ⟨hno1, hno⟩
        all_goals
          go_wp2_with fail
          refine wp_region_det 8 (by kernel_rfl) (by kernel_rfl) (by decide) ?_
          apply Exists.intro
          refine And.intro ?_ ?_
          · (intro W hW; (try simp only [Act.put, List.setIfInBounds_toArray, List.set_cons_zero, List.set_cons_succ]); first | (go_wp2_with fail; exact ⟨rfl, rfl, Below.refl _ _⟩))
          apply Exists.intro
          refine And.intro ?_ ?_
          · (intro W hW; (try simp only [Act.put, List.setIfInBounds_toArray, List.set_cons_zero, List.set_cons_succ]); first | (go_wp2_with fail; exact ⟨rfl, rfl, Below.refl _ _⟩))
          apply Exists.intro
          refine And.intro ?_ ?_
          · (intro W hW; (try simp only [Act.put, List.setIfInBounds_toArray, List.set_cons_zero, List.set_cons_succ]); first | (go_wp2_with fail; exact ⟨rfl, rfl, Below.refl _ _⟩))
          apply Exists.intro
          refine And.intro ?_ ?_
          · (intro W hW; (try simp only [Act.put, List.setIfInBounds_toArray, List.set_cons_zero, List.set_cons_succ]); first | (go_wp2_with fail; exact ⟨rfl, rfl, Below.refl _ _⟩))
          apply Exists.intro
          refine And.intro ?_ ?_
          · (intro W hW; (try simp only [Act.put, List.setIfInBounds_toArray, List.set_cons_zero, List.set_cons_succ]); first | (go_wp2_with fail; exact ⟨rfl, rfl, Below.refl _ _⟩))
          apply Exists.intro
          refine And.intro ?_ ?_
          · (intro W hW; (try simp only [Act.put, List.setIfInBounds_toArray, List.set_cons_zero, List.set_cons_succ]); first | (go_wp2_with fail; exact ⟨rfl, rfl, Below.refl _ _⟩))
          apply Exists.intro
          refine And.intro ?_ ?_
          · (intro W hW; (try simp only [Act.put, List.setIfInBounds_toArray, List.set_cons_zero, List.set_cons_succ]); first | (go_wp2_with fail; exact ⟨rfl, rfl, Below.refl _ _⟩))
          apply Exists.intro
          refine And.intro ?_ ?_
          · (intro W hW; (try simp only [Act.put, List.setIfInBounds_toArray, List.set_cons_zero, List.set_cons_succ]); first | (go_wp2_with fail; exact ⟨rfl, rfl, Below.refl _ _⟩))
          intro w1 hb
          (first | (have hcu2 := Cum.join hcu hb; (try clear hcu); (try clear hc); (try clear hfz); (try clear hsz); (try clear hs0); (try clear hs1); (try clear hs2); (try clear hs3); (try clear hs4); ) | have hcu2 := Cum.mk hb); have hcu := hcu2; clear hcu2; obtain ⟨hc, hfz⟩ := bcell hcu.h; have hsz := hcu.h.size; (try simp at hsz); (try have hs0 := lt_of_succ_le hsz); (try (have hs1 := lt_pred hsz; (try (have hs2 := lt_pred hs1; (try (have hs3 := lt_pred hs2; (try have hs4 := lt_pred hs3)))))))
          (try simp only [Act.put, List.setIfInBounds_toArray, List.set_cons_zero, List.set_cons_succ])
          (try simp only [List.drop_succ_cons, List.drop_nil])
          go_wp2_with fail
          go_ret2
          exact ⟨by rw [HF.out.1, HF.out.2, HX.out]; rfl, (by repeat (first | (with_reducible exact Below.refl _ _) | (with_reducible refine ext_alloc ?_) | ((with_reducible refine ext_setCell ?_ ?_); focus (simp; (try omega))) | (with_reducible refine below_drewN ?_ _) | (with_reducible refine Below.drew ?_) | (with_reducible (apply ext_step; assumption))))⟩
      · have HX := Lib.hid (show digE s (j + 1) = e0 by have h9 := HD.out; rw [HC.out, ← digit_fig, hf, if_pos rfl] at h9; exact h9.symm)
        have hle2 := (digE_le s (j + 1)).1
        rw [HX.out] at hle2
        have hg1 : (48 : Int) ≤ c := by unfold digitB at hf; simp at hf; omega
        have hg2 : (c : Int) ≤ 57 := by unfold digitB at hf; simp at hf; omega
        clear hf
        go_wp2_with fail
        go_roundw
        case rel => exact ⟨j + 1, hle2, by go_num, HX.out, by first | rfl | exact True.intro⟩
        case measure => simp [Lib.intOf]; omega
    · have HX := Lib.hid (show e0 = j by rw [← HJ.out]; exact digE_end (by omega))
      have hse : (j : Int) ≤ s.size := by omega
      go_wp2_with fail
      refine wp_region_det 8 (by kernel_rfl) (by kernel_rfl) (by decide) ?_
      apply Exists.intro
      refine And.intro ?_ ?_
      · (intro W hW; (try simp only [Act.put, List.setIfInBounds_toArray, List.set_cons_zero, List.set_cons_succ]); first | (go_wp2_with fail; exact ⟨rfl, rfl, Below.refl _ _⟩))
      apply Exists.intro
      refine And.intro ?_ ?_
      · (intro W hW; (try simp only [Act.put, List.setIfInBounds_toArray, List.set_cons_zero, List.set_cons_succ]); first | (go_wp2_with fail; exact ⟨rfl, rfl, Below.refl _ _⟩))
      apply Exists.intro
      refine And.intro ?_ ?_
      · (intro W hW; (try simp only [Act.put, List.setIfInBounds_toArray, List.set_cons_zero, List.set_cons_succ]); first | (go_wp2_with fail; exact ⟨rfl, rfl, Below.refl _ _⟩))
      apply Exists.intro
      refine And.intro ?_ ?_
      · (intro W hW; (try simp only [Act.put, List.setIfInBounds_toArray, List.set_cons_zero, List.set_cons_succ]); first | (go_wp2_with fail; exact ⟨rfl, rfl, Below.refl _ _⟩))
      apply Exists.intro
      refine And.intro ?_ ?_
      · (intro W hW; (try simp only [Act.put, List.setIfInBounds_toArray, List.set_cons_zero, List.set_cons_succ]); first | (go_wp2_with fail; exact ⟨rfl, rfl, Below.refl _ _⟩))
      apply Exists.intro
      refine And.intro ?_ ?_
      · (intro W hW; (try simp only [Act.put, List.setIfInBounds_toArray, List.set_cons_zero, List.set_cons_succ]); first | (go_wp2_with fail; exact ⟨rfl, rfl, Below.refl _ _⟩))
      apply Exists.intro
      refine And.intro ?_ ?_
      · (intro W hW; (try simp only [Act.put, List.setIfInBounds_toArray, List.set_cons_zero, List.set_cons_succ]); first | (go_wp2_with fail; exact ⟨rfl, rfl, Below.refl _ _⟩))
      apply Exists.intro
      refine And.intro ?_ ?_
      · (intro W hW; (try simp only [Act.put, List.setIfInBounds_toArray, List.set_cons_zero, List.set_cons_succ]); first | (go_wp2_with fail; exact ⟨rfl, rfl, Below.refl _ _⟩))
      intro w1 hb
      (first | (have hcu2 := Cum.join hcu hb; (try clear hcu); (try clear hc); (try clear hfz); (try clear hsz); (try clear hs0); (try clear hs1); (try clear hs2); (try clear hs3); (try clear hs4); ) | have hcu2 := Cum.mk hb); have hcu := hcu2; clear hcu2; obtain ⟨hc, hfz⟩ := bcell hcu.h; have hsz := hcu.h.size; (try simp at hsz); (try have hs0 := lt_of_succ_le hsz); (try (have hs1 := lt_pred hsz; (try (have hs2 := lt_pred hs1; (try (have hs3 := lt_pred hs2; (try have hs4 := lt_pred hs3)))))))
      (try simp only [Act.put, List.setIfInBounds_toArray, List.set_cons_zero, List.set_cons_succ])
      (try simp only [List.drop_succ_cons, List.drop_nil])
      go_wp2_with fail
      go_ret2
      exact ⟨by rw [HF.out.1, HF.out.2, HX.out]; rfl, (by repeat (first | (with_reducible exact Below.refl _ _) | (with_reducible refine ext_alloc ?_) | ((with_reducible refine ext_setCell ?_ ?_); focus (simp; (try omega))) | (with_reducible refine below_drewN ?_ _) | (with_reducible refine Below.drew ?_) | (with_reducible (apply ext_step; assumption))))⟩
set_option maxHeartbeats 2000000 in
theorem c_impl_ReadInt (s : ByteArray) (w : World) (hs : s.size ≤ 1048576) (h0 : 0 < s.size) (hf : ∀ c ∈ s.data.toList, figB c) (hp : Pow w) (hE : ErrR w) :
    Calls Tryd.prog 34 #[.string s] w fun e w' => e = .returned (.tuple #[.int .i64 (readV s), .bool (readOk s)]) ∧ Below w.heap.size w w' := by
  have HE := Lib.hid hE
  have Hp := Lib.hid hp
  have Hd := Lib.hid hf
  clear hE hp hf
  by_cases hl : (20 : Int) < s.size
  · have Hf := Lib.hid (read_none (readI_long (s := s) (by omega)))
    go_enter Tryd.func34, Tryd.ntmps34
    go_wp2_with fail
    go_ret2
    exact ⟨by rw [Hf.out.1, Hf.out.2]; rfl, Below.refl _ _⟩
  · have hl2 : decide ((20 : Int) < s.size) = false := decide_eq_false hl
    have hne : s.data.toList ≠ [] := by
      intro h
      have h2 : s.data.toList.length = 0 := by rw [h]; rfl
      rw [Array.length_toList] at h2
      have h3 : s.size = s.data.size := rfl
      omega
    have HA := Lib.hid (atoi_figs hne Hd.out)
    obtain ⟨u, hu⟩ : ∃ u, u = valL 0 s.data.toList := ⟨_, rfl⟩
    rw [← hu] at HA
    have HU := Lib.hid hu
    clear hl hne hu
    by_cases hv : u ≤ 9223372036854775807
    · have HV := Lib.hid (show atoiAll s.data.toList = .ok (u : Int) by rw [HA.out, if_pos hv])
      have HR := Lib.hid (readI_end (s := s) (by rw [← HU.out]; exact hv))
      rw [← HU.out] at HR
      by_cases hd : decS (u : Int) = s
      · have Hf := Lib.hid (read_some (s := s) (u := u) (by rw [HR.out, if_pos hd]))
        have hdd := beqD_yes hd
        have hdn : (decS (u : Int)).toList = s.toList := by rw [hd]
        clear hd
        go_enter Tryd.func34, Tryd.ntmps34
        go_wp2_with (first | (go_at_call 43; refine (c_Atoi_ok s (u : Int) _ hs HV.out).mono ?_; rintro e w1 ⟨rfl, hb1⟩; have HB1 := Lib.hid hb1; clear hb1) | (go_at_call 44; refine (c_impl_Decimal (u : Int) _ ⟨by omega, by omega⟩ (Hp.out.below HB1.out)).mono ?_; rintro e w2 ⟨rfl, hb2⟩; have HB2 := Lib.hid hb2; clear hb2))
        go_ret2
        exact ⟨by rw [Hf.out.1, Hf.out.2]; rfl, HB1.out.trans (HB2.out.mono HB1.out.size)⟩
      · have Hf := Lib.hid (read_none (s := s) (by rw [HR.out, if_neg hd]))
        have hdd := beqD_no hd
        clear hd
        go_enter Tryd.func34, Tryd.ntmps34
        go_wp2_with (first | (go_at_call 43; refine (c_Atoi_ok s (u : Int) _ hs HV.out).mono ?_; rintro e w1 ⟨rfl, hb1⟩; have HB1 := Lib.hid hb1; clear hb1) | (go_at_call 44; refine (c_impl_Decimal (u : Int) _ ⟨by omega, by omega⟩ (Hp.out.below HB1.out)).mono ?_; rintro e w2 ⟨rfl, hb2⟩; have HB2 := Lib.hid hb2; clear hb2))
        go_ret2
        exact ⟨by rw [Hf.out.1, Hf.out.2]; rfl, HB1.out.trans (HB2.out.mono HB1.out.size)⟩
    · have HV := Lib.hid (show atoiAll s.data.toList = .range by rw [HA.out, if_neg hv])
      have Hf := Lib.hid (read_none (s := s) (by unfold readI; rw [if_neg (fun h => hv (by rw [HU.out]; exact h.1))]))
      clear hv
      go_enter Tryd.func34, Tryd.ntmps34
      go_wp2_with (go_at_call 43; refine (c_Atoi_range s _ hs HV.out HE.out).mono ?_; rintro e w1 ⟨xv, nv, rfl, hb1⟩; have HB1 := Lib.hid hb1; clear hb1)
      go_ret2
      exact ⟨by rw [Hf.out.1, Hf.out.2]; rfl, HB1.out⟩
set_option maxHeartbeats 4000000 in
set_option maxRecDepth 20000 in
theorem c_impl_ReadAmount (s : ByteArray) (w : World) (hs : s.size ≤ 1048576) (hp : Pow w) (hE : ErrR w) :
    Calls Tryd.prog 20 #[.string s] w fun e w' => e = .returned (.tuple #[.int .i64 (readA s).1, .int .i64 (readA s).2]) ∧ Below w.heap.size w w' := by
  have HE := Lib.hid hE
  have Hp := Lib.hid hp
  clear hE hp
  obtain ⟨g, hg⟩ : ∃ g, g = figsA s := ⟨_, rfl⟩
  obtain ⟨x, hx⟩ : ∃ x, x = sufxA s := ⟨_, rfl⟩
  obtain ⟨uv, huv⟩ : ∃ uv, uv = unitV x := ⟨_, rfl⟩
  obtain ⟨ub, hub⟩ : ∃ ub, ub = unitB x := ⟨_, rfl⟩
  have hur := unitV_range x
  rw [← huv] at hur
  obtain ⟨hur0, hur1⟩ := hur
  have hgs : g.size = digE s 0 := by rw [hg]; exact figsA_size s
  have hgl : g.size ≤ s.size := by rw [hgs]; exact digE0_le s
  have HUV := Lib.hid huv.symm
  have HUB := Lib.hid hub.symm
  have HG := Lib.hid hg
  have HX := Lib.hid hx
  have HGS := Lib.hid hgs
  have Hfg := Lib.hid (show ∀ c ∈ g.data.toList, figB c by rw [hg]; exact figsA_figs s)
  clear huv hub hg hx hgs
  by_cases c40 : (40 : Int) < s.size
  · have HQ := Lib.hid (readA_form (s := s) (.inl (by omega)))
    go_enter Tryd.func20, Tryd.ntmps20
    go_wp2_with (first | (go_at_call 32; refine (c_impl_SplitAmount s _ hs).mono ?_; rintro e w1 ⟨rfl, hb1⟩; rw [← HG.out, ← HX.out]) | (go_at_call 33; refine (c_impl_UnitOf x _).mono ?_; rintro e w2 ⟨rfl, hb2⟩; rw [HUV.out, HUB.out]))
    go_ret2
    exact ⟨by rw [HQ.out]; rfl, (by repeat (first | (with_reducible exact Below.refl _ _) | (with_reducible refine ext_alloc ?_) | ((with_reducible refine ext_setCell ?_ ?_); focus (simp; (try omega))) | (with_reducible refine below_drewN ?_ _) | (with_reducible refine Below.drew ?_) | (with_reducible (apply ext_step; assumption))))⟩
  · have d40 : decide ((40 : Int) < s.size) = false := decide_eq_false c40
    have hs40 : s.size ≤ 40 := by omega
    clear c40
    by_cases hg0 : 0 < g.size
    · have hge : g.toList.isEmpty = false := toList_some hg0
      have hg8 : g.size ≤ 1048576 := by omega
      obtain ⟨b, hb⟩ : ∃ b : Nat, b = (g.get! 0).toNat := ⟨_, rfl⟩
      have hxb : (g[0]'hg0).toNat = b := by rw [hb]; exact get_byte g 0 hg0
      have HBy := Lib.hid (show byteI s 0 = b by
        unfold byteI
        rw [hb, HG.out, figsA_byte (by rw [← HGS.out]; exact hg0)])
      clear hb
      by_cases cz : (1 : Int) < g.size ∧ (b : Int) = 48
      · have HQ := Lib.hid (readA_form (s := s) (.inr (.inr (.inl ⟨by rw [← HGS.out]; omega, by rw [HBy.out]; exact cz.2⟩))))
        obtain ⟨cz1, cz2⟩ := cz
        obtain rfl : b = 48 := by omega
        clear cz2
        go_enter Tryd.func20, Tryd.ntmps20
        go_wp2_with (first | (go_at_call 32; refine (c_impl_SplitAmount s _ hs).mono ?_; rintro e w1 ⟨rfl, hb1⟩; rw [← HG.out, ← HX.out]) | (go_at_call 33; refine (c_impl_UnitOf x _).mono ?_; rintro e w2 ⟨rfl, hb2⟩; rw [HUV.out, HUB.out]))
        go_ret2
        exact ⟨by rw [HQ.out]; rfl, (by repeat (first | (with_reducible exact Below.refl _ _) | (with_reducible refine ext_alloc ?_) | ((with_reducible refine ext_setCell ?_ ?_); focus (simp; (try omega))) | (with_reducible refine below_drewN ?_ _) | (with_reducible refine Below.drew ?_) | (with_reducible (apply ext_step; assumption))))⟩
      · have hz : (decide ((1 : Int) < g.size) = false) ∨ (decide ((1 : Int) < g.size) = true ∧ ((b : Int) == 48) = false) := by
          by_cases c1 : (1 : Int) < g.size
          · exact .inr ⟨decide_eq_true c1, beq_eq_false_iff_ne.2 (fun h => cz ⟨c1, h⟩)⟩
          · exact .inl (decide_eq_false c1)
        have HZ := Lib.hid hz
        have HCZ := Lib.hid cz
        clear hz cz
        rcases ub with _ | _
        · have HQ := Lib.hid (readA_form (s := s) (.inr (.inr (.inr (by rw [← HX.out, HUB.out])))))
          rcases HZ.out with z1 | ⟨z1, z2⟩
          all_goals
            go_enter Tryd.func20, Tryd.ntmps20
            go_wp2_with (first | (go_at_call 32; refine (c_impl_SplitAmount s _ hs).mono ?_; rintro e w1 ⟨rfl, hb1⟩; rw [← HG.out, ← HX.out]) | (go_at_call 33; refine (c_impl_UnitOf x _).mono ?_; rintro e w2 ⟨rfl, hb2⟩; rw [HUV.out, HUB.out]))
            go_ret2
            exact ⟨by rw [HQ.out]; rfl, (by repeat (first | (with_reducible exact Below.refl _ _) | (with_reducible refine ext_alloc ?_) | ((with_reducible refine ext_setCell ?_ ?_); focus (simp; (try omega))) | (with_reducible refine below_drewN ?_ _) | (with_reducible refine Below.drew ?_) | (with_reducible (apply ext_step; assumption))))⟩
        · have HN := Lib.hid (show ¬ (40 < s.size ∨ digE s 0 = 0 ∨ (1 < digE s 0 ∧ byteI s 0 = 48) ∨ unitB (sufxA s) = false) by
            rw [← HGS.out, HBy.out, ← HX.out, HUB.out]
            rintro (h | h | h | h)
            · omega
            · omega
            · exact HCZ.out ⟨by omega, h.2⟩
            · cases h)
          obtain ⟨rv, hrv⟩ : ∃ v, v = readV g := ⟨_, rfl⟩
          obtain ⟨rb, hrb⟩ : ∃ v, v = readOk g := ⟨_, rfl⟩
          have hrr := readV_range g
          rw [← hrv] at hrr
          obtain ⟨hr0, hr1⟩ := hrr
          obtain ⟨mv, hmv⟩ : ∃ v, v = mulV rv uv := ⟨_, rfl⟩
          obtain ⟨mb, hmb⟩ : ∃ v, v = mulB rv uv := ⟨_, rfl⟩
          have HRV := Lib.hid hrv.symm
          have HRB := Lib.hid hrb.symm
          have HMV := Lib.hid hmv.symm
          have HMB := Lib.hid hmb.symm
          clear hrv hrb hmv hmb
          rcases rb with _ | _
          · have HQ := Lib.hid (readA_wide HN.out (by rw [← HG.out, HRB.out]; rintro ⟨h, -⟩; cases h))
            rcases HZ.out with z1 | ⟨z1, z2⟩
            all_goals
              go_enter Tryd.func20, Tryd.ntmps20
              go_wp2_with (first | (go_at_call 32; refine (c_impl_SplitAmount s _ hs).mono ?_; rintro e w1 ⟨rfl, hb1⟩; rw [← HG.out, ← HX.out]) | (go_at_call 33; refine (c_impl_UnitOf x _).mono ?_; rintro e w2 ⟨rfl, hb2⟩; rw [HUV.out, HUB.out]) | (go_at_call 34; refine (c_impl_ReadInt g _ hg8 hg0 Hfg.out (Hp.out.below (by repeat (first | (with_reducible exact Below.refl _ _) | (with_reducible refine ext_alloc ?_) | ((with_reducible refine ext_setCell ?_ ?_); focus (simp; (try omega))) | (with_reducible refine below_drewN ?_ _) | (with_reducible refine Below.drew ?_) | (with_reducible (apply ext_step; assumption))))) (HE.out.below (by repeat (first | (with_reducible exact Below.refl _ _) | (with_reducible refine ext_alloc ?_) | ((with_reducible refine ext_setCell ?_ ?_); focus (simp; (try omega))) | (with_reducible refine below_drewN ?_ _) | (with_reducible refine Below.drew ?_) | (with_reducible (apply ext_step; assumption)))))).mono ?_; rintro e w3 ⟨rfl, hb3⟩; rw [HRV.out, HRB.out]) | (go_at_call 21; refine (c_impl_MulInt _ _ _ (by unfold I64; omega) (by unfold I64; omega)).mono ?_; rintro e w4 ⟨rfl, rfl⟩; rw [HMV.out, HMB.out]))
              go_ret2
              exact ⟨by rw [HQ.out]; rfl, (by repeat (first | (with_reducible exact Below.refl _ _) | (with_reducible refine ext_alloc ?_) | ((with_reducible refine ext_setCell ?_ ?_); focus (simp; (try omega))) | (with_reducible refine below_drewN ?_ _) | (with_reducible refine Below.drew ?_) | (with_reducible (apply ext_step; assumption))))⟩
          · rcases mb with _ | _
            · have HQ := Lib.hid (readA_wide HN.out (by rw [← HG.out, ← HX.out, HRV.out, HUV.out, HMB.out]; rintro ⟨-, h⟩; cases h))
              rcases HZ.out with z1 | ⟨z1, z2⟩
              all_goals
                go_enter Tryd.func20, Tryd.ntmps20
                go_wp2_with (first | (go_at_call 32; refine (c_impl_SplitAmount s _ hs).mono ?_; rintro e w1 ⟨rfl, hb1⟩; rw [← HG.out, ← HX.out]) | (go_at_call 33; refine (c_impl_UnitOf x _).mono ?_; rintro e w2 ⟨rfl, hb2⟩; rw [HUV.out, HUB.out]) | (go_at_call 34; refine (c_impl_ReadInt g _ hg8 hg0 Hfg.out (Hp.out.below (by repeat (first | (with_reducible exact Below.refl _ _) | (with_reducible refine ext_alloc ?_) | ((with_reducible refine ext_setCell ?_ ?_); focus (simp; (try omega))) | (with_reducible refine below_drewN ?_ _) | (with_reducible refine Below.drew ?_) | (with_reducible (apply ext_step; assumption))))) (HE.out.below (by repeat (first | (with_reducible exact Below.refl _ _) | (with_reducible refine ext_alloc ?_) | ((with_reducible refine ext_setCell ?_ ?_); focus (simp; (try omega))) | (with_reducible refine below_drewN ?_ _) | (with_reducible refine Below.drew ?_) | (with_reducible (apply ext_step; assumption)))))).mono ?_; rintro e w3 ⟨rfl, hb3⟩; rw [HRV.out, HRB.out]) | (go_at_call 21; refine (c_impl_MulInt _ _ _ (by unfold I64; omega) (by unfold I64; omega)).mono ?_; rintro e w4 ⟨rfl, rfl⟩; rw [HMV.out, HMB.out]))
                go_ret2
                exact ⟨by rw [HQ.out]; rfl, (by repeat (first | (with_reducible exact Below.refl _ _) | (with_reducible refine ext_alloc ?_) | ((with_reducible refine ext_setCell ?_ ?_); focus (simp; (try omega))) | (with_reducible refine below_drewN ?_ _) | (with_reducible refine Below.drew ?_) | (with_reducible (apply ext_step; assumption))))⟩
            · have HQ := Lib.hid ((readA_ok HN.out (by rw [← HG.out]; exact HRB.out) (by rw [← HG.out, ← HX.out, HRV.out, HUV.out]; exact HMB.out)).trans (by rw [← HG.out, ← HX.out, HRV.out, HUV.out, HMV.out]))
              rcases HZ.out with z1 | ⟨z1, z2⟩
              all_goals
                go_enter Tryd.func20, Tryd.ntmps20
                go_wp2_with (first | (go_at_call 32; refine (c_impl_SplitAmount s _ hs).mono ?_; rintro e w1 ⟨rfl, hb1⟩; rw [← HG.out, ← HX.out]) | (go_at_call 33; refine (c_impl_UnitOf x _).mono ?_; rintro e w2 ⟨rfl, hb2⟩; rw [HUV.out, HUB.out]) | (go_at_call 34; refine (c_impl_ReadInt g _ hg8 hg0 Hfg.out (Hp.out.below (by repeat (first | (with_reducible exact Below.refl _ _) | (with_reducible refine ext_alloc ?_) | ((with_reducible refine ext_setCell ?_ ?_); focus (simp; (try omega))) | (with_reducible refine below_drewN ?_ _) | (with_reducible refine Below.drew ?_) | (with_reducible (apply ext_step; assumption))))) (HE.out.below (by repeat (first | (with_reducible exact Below.refl _ _) | (with_reducible refine ext_alloc ?_) | ((with_reducible refine ext_setCell ?_ ?_); focus (simp; (try omega))) | (with_reducible refine below_drewN ?_ _) | (with_reducible refine Below.drew ?_) | (with_reducible (apply ext_step; assumption)))))).mono ?_; rintro e w3 ⟨rfl, hb3⟩; rw [HRV.out, HRB.out]) | (go_at_call 21; refine (c_impl_MulInt _ _ _ (by unfold I64; omega) (by unfold I64; omega)).mono ?_; rintro e w4 ⟨rfl, rfl⟩; rw [HMV.out, HMB.out]))
                go_ret2
                exact ⟨by rw [HQ.out]; rfl, (by repeat (first | (with_reducible exact Below.refl _ _) | (with_reducible refine ext_alloc ?_) | ((with_reducible refine ext_setCell ?_ ?_); focus (simp; (try omega))) | (with_reducible refine below_drewN ?_ _) | (with_reducible refine Below.drew ?_) | (with_reducible (apply ext_step; assumption))))⟩
    · have hg00 : g.size = 0 := by omega
      have HQ := Lib.hid (readA_form (s := s) (.inr (.inl (by rw [← HGS.out]; exact hg00))))
      have hge : g.toList.isEmpty = true := toList_empty hg00
      clear hg0 hg00
      go_enter Tryd.func20, Tryd.ntmps20
      go_wp2_with (first | (go_at_call 32; refine (c_impl_SplitAmount s _ hs).mono ?_; rintro e w1 ⟨rfl, hb1⟩; rw [← HG.out, ← HX.out]) | (go_at_call 33; refine (c_impl_UnitOf x _).mono ?_; rintro e w2 ⟨rfl, hb2⟩; rw [HUV.out, HUB.out]))
      go_ret2
      exact ⟨by rw [HQ.out]; rfl, (by repeat (first | (with_reducible exact Below.refl _ _) | (with_reducible refine ext_alloc ?_) | ((with_reducible refine ext_setCell ?_ ?_); focus (simp; (try omega))) | (with_reducible refine below_drewN ?_ _) | (with_reducible refine Below.drew ?_) | (with_reducible (apply ext_step; assumption))))⟩
set_option maxHeartbeats 4000000 in
set_option maxRecDepth 20000 in
theorem c_spec_ReadAmount (s : ByteArray) (w : World) (hs : s.size ≤ 1048576) :
    Calls Tryd.prog 15 #[.string s] w fun e w' => e = .returned (.tuple #[.int .i64 (readA s).1, .int .i64 (readA s).2]) ∧ Below w.heap.size w w' := by
  have hs2 := hs
  obtain ⟨g, hg⟩ : ∃ g, g = figsA s := ⟨_, rfl⟩
  obtain ⟨x, hx⟩ : ∃ x, x = sufxA s := ⟨_, rfl⟩
  obtain ⟨uv, huv⟩ : ∃ uv, uv = unitV x := ⟨_, rfl⟩
  obtain ⟨ub, hub⟩ : ∃ ub, ub = unitB x := ⟨_, rfl⟩
  have hur := unitV_range x
  rw [← huv] at hur
  obtain ⟨hur0, hur1⟩ := hur
  have hgs : g.size = digE s 0 := by rw [hg]; exact figsA_size s
  have hgl : g.size ≤ s.size := by rw [hgs]; exact digE0_le s
  have HUV := Lib.hid huv.symm
  have HUB := Lib.hid hub.symm
  have HG := Lib.hid hg
  have HX := Lib.hid hx
  have HGS := Lib.hid hgs
  have Hfg := Lib.hid (show ∀ c ∈ g.data.toList, figB c by rw [hg]; exact figsA_figs s)
  clear huv hub hg hx hgs
  by_cases c40 : (40 : Int) < s.size
  · have HQ := Lib.hid (readA_form (s := s) (.inl (by omega)))
    go_enter Tryd.func15, Tryd.ntmps15
    go_wp2_with (first | (go_at_call 27; refine (c_spec_SplitAmount s _ hs).mono ?_; rintro e w1 ⟨rfl, hb1⟩; rw [← HG.out, ← HX.out]) | (go_at_call 28; refine (c_spec_UnitOf x _).mono ?_; rintro e w2 ⟨rfl, hb2⟩; rw [HUV.out, HUB.out]))
    go_ret2
    exact ⟨by rw [HQ.out]; rfl, (by repeat (first | (with_reducible exact Below.refl _ _) | (with_reducible refine ext_alloc ?_) | ((with_reducible refine ext_setCell ?_ ?_); focus (simp; (try omega))) | (with_reducible refine below_drewN ?_ _) | (with_reducible refine Below.drew ?_) | (with_reducible (apply ext_step; assumption))))⟩
  · have d40 : decide ((40 : Int) < s.size) = false := decide_eq_false c40
    have hs40 : s.size ≤ 40 := by omega
    clear c40
    by_cases hg0 : 0 < g.size
    · have hge : g.toList.isEmpty = false := toList_some hg0
      have hg8 : g.size ≤ 1048576 := by omega
      obtain ⟨b, hb⟩ : ∃ b : Nat, b = (g.get! 0).toNat := ⟨_, rfl⟩
      have hxb : (g[0]'hg0).toNat = b := by rw [hb]; exact get_byte g 0 hg0
      have HBy := Lib.hid (show byteI s 0 = b by
        unfold byteI
        rw [hb, HG.out, figsA_byte (by rw [← HGS.out]; exact hg0)])
      clear hb
      by_cases cz : (1 : Int) < g.size ∧ (b : Int) = 48
      · have HQ := Lib.hid (readA_form (s := s) (.inr (.inr (.inl ⟨by rw [← HGS.out]; omega, by rw [HBy.out]; exact cz.2⟩))))
        obtain ⟨cz1, cz2⟩ := cz
        obtain rfl : b = 48 := by omega
        clear cz2
        go_enter Tryd.func15, Tryd.ntmps15
        go_wp2_with (first | (go_at_call 27; refine (c_spec_SplitAmount s _ hs).mono ?_; rintro e w1 ⟨rfl, hb1⟩; rw [← HG.out, ← HX.out]) | (go_at_call 28; refine (c_spec_UnitOf x _).mono ?_; rintro e w2 ⟨rfl, hb2⟩; rw [HUV.out, HUB.out]))
        go_ret2
        exact ⟨by rw [HQ.out]; rfl, (by repeat (first | (with_reducible exact Below.refl _ _) | (with_reducible refine ext_alloc ?_) | ((with_reducible refine ext_setCell ?_ ?_); focus (simp; (try omega))) | (with_reducible refine below_drewN ?_ _) | (with_reducible refine Below.drew ?_) | (with_reducible (apply ext_step; assumption))))⟩
      · have hz : (decide ((1 : Int) < g.size) = false) ∨ (decide ((1 : Int) < g.size) = true ∧ ((b : Int) == 48) = false) := by
          by_cases c1 : (1 : Int) < g.size
          · exact .inr ⟨decide_eq_true c1, beq_eq_false_iff_ne.2 (fun h => cz ⟨c1, h⟩)⟩
          · exact .inl (decide_eq_false c1)
        have HZ := Lib.hid hz
        have HCZ := Lib.hid cz
        clear hz cz
        rcases ub with _ | _
        · have HQ := Lib.hid (readA_form (s := s) (.inr (.inr (.inr (by rw [← HX.out, HUB.out])))))
          rcases HZ.out with z1 | ⟨z1, z2⟩
          all_goals
            go_enter Tryd.func15, Tryd.ntmps15
            go_wp2_with (first | (go_at_call 27; refine (c_spec_SplitAmount s _ hs).mono ?_; rintro e w1 ⟨rfl, hb1⟩; rw [← HG.out, ← HX.out]) | (go_at_call 28; refine (c_spec_UnitOf x _).mono ?_; rintro e w2 ⟨rfl, hb2⟩; rw [HUV.out, HUB.out]))
            go_ret2
            exact ⟨by rw [HQ.out]; rfl, (by repeat (first | (with_reducible exact Below.refl _ _) | (with_reducible refine ext_alloc ?_) | ((with_reducible refine ext_setCell ?_ ?_); focus (simp; (try omega))) | (with_reducible refine below_drewN ?_ _) | (with_reducible refine Below.drew ?_) | (with_reducible (apply ext_step; assumption))))⟩
        · have HN := Lib.hid (show ¬ (40 < s.size ∨ digE s 0 = 0 ∨ (1 < digE s 0 ∧ byteI s 0 = 48) ∨ unitB (sufxA s) = false) by
            rw [← HGS.out, HBy.out, ← HX.out, HUB.out]
            rintro (h | h | h | h)
            · omega
            · omega
            · exact HCZ.out ⟨by omega, h.2⟩
            · cases h)
          obtain ⟨rv, hrv⟩ : ∃ v, v = readV g := ⟨_, rfl⟩
          obtain ⟨rb, hrb⟩ : ∃ v, v = readOk g := ⟨_, rfl⟩
          have hrr := readV_range g
          rw [← hrv] at hrr
          obtain ⟨hr0, hr1⟩ := hrr
          obtain ⟨mv, hmv⟩ : ∃ v, v = mulV rv uv := ⟨_, rfl⟩
          obtain ⟨mb, hmb⟩ : ∃ v, v = mulB rv uv := ⟨_, rfl⟩
          have HRV := Lib.hid hrv.symm
          have HRB := Lib.hid hrb.symm
          have HMV := Lib.hid hmv.symm
          have HMB := Lib.hid hmb.symm
          clear hrv hrb hmv hmb
          rcases rb with _ | _
          · have HQ := Lib.hid (readA_wide HN.out (by rw [← HG.out, HRB.out]; rintro ⟨h, -⟩; cases h))
            rcases HZ.out with z1 | ⟨z1, z2⟩
            all_goals
              go_enter Tryd.func15, Tryd.ntmps15
              go_wp2_with (first | (go_at_call 27; refine (c_spec_SplitAmount s _ hs).mono ?_; rintro e w1 ⟨rfl, hb1⟩; rw [← HG.out, ← HX.out]) | (go_at_call 28; refine (c_spec_UnitOf x _).mono ?_; rintro e w2 ⟨rfl, hb2⟩; rw [HUV.out, HUB.out]) | (go_at_call 29; refine (c_spec_ReadInt g _ hg8).mono ?_; rintro e w3 ⟨rfl, hb3⟩; rw [HRV.out, HRB.out]) | (go_at_call 16; refine (c_spec_MulInt _ _ _ (by unfold I64; omega) (by unfold I64; omega)).mono ?_; rintro e w4 ⟨rfl, rfl⟩; rw [HMV.out, HMB.out]))
              go_ret2
              exact ⟨by rw [HQ.out]; rfl, (by repeat (first | (with_reducible exact Below.refl _ _) | (with_reducible refine ext_alloc ?_) | ((with_reducible refine ext_setCell ?_ ?_); focus (simp; (try omega))) | (with_reducible refine below_drewN ?_ _) | (with_reducible refine Below.drew ?_) | (with_reducible (apply ext_step; assumption))))⟩
          · rcases mb with _ | _
            · have HQ := Lib.hid (readA_wide HN.out (by rw [← HG.out, ← HX.out, HRV.out, HUV.out, HMB.out]; rintro ⟨-, h⟩; cases h))
              rcases HZ.out with z1 | ⟨z1, z2⟩
              all_goals
                go_enter Tryd.func15, Tryd.ntmps15
                go_wp2_with (first | (go_at_call 27; refine (c_spec_SplitAmount s _ hs).mono ?_; rintro e w1 ⟨rfl, hb1⟩; rw [← HG.out, ← HX.out]) | (go_at_call 28; refine (c_spec_UnitOf x _).mono ?_; rintro e w2 ⟨rfl, hb2⟩; rw [HUV.out, HUB.out]) | (go_at_call 29; refine (c_spec_ReadInt g _ hg8).mono ?_; rintro e w3 ⟨rfl, hb3⟩; rw [HRV.out, HRB.out]) | (go_at_call 16; refine (c_spec_MulInt _ _ _ (by unfold I64; omega) (by unfold I64; omega)).mono ?_; rintro e w4 ⟨rfl, rfl⟩; rw [HMV.out, HMB.out]))
                go_ret2
                exact ⟨by rw [HQ.out]; rfl, (by repeat (first | (with_reducible exact Below.refl _ _) | (with_reducible refine ext_alloc ?_) | ((with_reducible refine ext_setCell ?_ ?_); focus (simp; (try omega))) | (with_reducible refine below_drewN ?_ _) | (with_reducible refine Below.drew ?_) | (with_reducible (apply ext_step; assumption))))⟩
            · have HQ := Lib.hid ((readA_ok HN.out (by rw [← HG.out]; exact HRB.out) (by rw [← HG.out, ← HX.out, HRV.out, HUV.out]; exact HMB.out)).trans (by rw [← HG.out, ← HX.out, HRV.out, HUV.out, HMV.out]))
              rcases HZ.out with z1 | ⟨z1, z2⟩
              all_goals
                go_enter Tryd.func15, Tryd.ntmps15
                go_wp2_with (first | (go_at_call 27; refine (c_spec_SplitAmount s _ hs).mono ?_; rintro e w1 ⟨rfl, hb1⟩; rw [← HG.out, ← HX.out]) | (go_at_call 28; refine (c_spec_UnitOf x _).mono ?_; rintro e w2 ⟨rfl, hb2⟩; rw [HUV.out, HUB.out]) | (go_at_call 29; refine (c_spec_ReadInt g _ hg8).mono ?_; rintro e w3 ⟨rfl, hb3⟩; rw [HRV.out, HRB.out]) | (go_at_call 16; refine (c_spec_MulInt _ _ _ (by unfold I64; omega) (by unfold I64; omega)).mono ?_; rintro e w4 ⟨rfl, rfl⟩; rw [HMV.out, HMB.out]))
                go_ret2
                exact ⟨by rw [HQ.out]; rfl, (by repeat (first | (with_reducible exact Below.refl _ _) | (with_reducible refine ext_alloc ?_) | ((with_reducible refine ext_setCell ?_ ?_); focus (simp; (try omega))) | (with_reducible refine below_drewN ?_ _) | (with_reducible refine Below.drew ?_) | (with_reducible (apply ext_step; assumption))))⟩
    · have hg00 : g.size = 0 := by omega
      have HQ := Lib.hid (readA_form (s := s) (.inr (.inl (by rw [← HGS.out]; exact hg00))))
      have hge : g.toList.isEmpty = true := toList_empty hg00
      clear hg0 hg00
      go_enter Tryd.func15, Tryd.ntmps15
      go_wp2_with (first | (go_at_call 27; refine (c_spec_SplitAmount s _ hs).mono ?_; rintro e w1 ⟨rfl, hb1⟩; rw [← HG.out, ← HX.out]) | (go_at_call 28; refine (c_spec_UnitOf x _).mono ?_; rintro e w2 ⟨rfl, hb2⟩; rw [HUV.out, HUB.out]))
      go_ret2
      exact ⟨by rw [HQ.out]; rfl, (by repeat (first | (with_reducible exact Below.refl _ _) | (with_reducible refine ext_alloc ?_) | ((with_reducible refine ext_setCell ?_ ?_); focus (simp; (try omega))) | (with_reducible refine below_drewN ?_ _) | (with_reducible refine Below.drew ?_) | (with_reducible (apply ext_step; assumption))))⟩
end Go.Proofs.YtdogjeoiggnhaaaDoor
