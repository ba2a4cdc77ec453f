/- Written by wip/tools/pack.py: the texts that FnExactPodNormal needs, without what it does not need. No conditions. -/
import Derived.Test.YtmhlnbihppojmaaGreatKFnExactPodNormal8
import Derived.Test.YtmhlnbihppojmaaGreatKFnExactPodNormal3
import Derived.Deep.Cut
import Derived.Deep.CutRange
import Derived.Deep.CutBlock
import Derived.Shelf.SlSortCmp.WholeK
import Derived.Shelf.SlGeneric
import Derived.Test.YtmhlnbihppojmaaGreatKFnExactPodNormal1
import Derived.Test.YtmhlnbihppojmaaGreatKFnExactPodNormal4
import Derived.Test.YtmhlnbihppojmaaGreatKFnExactPodNormal2
import Derived.Deep.RegionLaw
import Derived.Sort.Grow
import Derived.Deep.Draws
namespace Go.Proofs.YtmhlnbihppojmaaGreat
open Go.RowKit
theorem c_lab1 (x y : Label) (w : World) : Calls Tryz.prog 123 #[.agg #[.string x.key, .string x.value], .agg #[.string y.key, .string y.value]] w fun e w' => e = .returned (.int .i64 (cmpS x.key y.key)) ∧ Below w.heap.size w w' := by
  go_enter Tryz.func123, Tryz.ntmps123
  go_wp2_with (first | (go_at_call 104; refine (c_strings_Compare _ _ _).mono ?_; rintro e w1 ⟨rfl, rfl⟩))
  go_ret
  exact ⟨rfl, bel⟩
theorem two_cells {base g n cap k : Nat} {wr : World} {l : List Label} {x : Label} (h : RowE encL 2 98 base wr l (.slice (some ⟨g, 0, none⟩) n cap)) (hx : l[k]? = some x) : wr.cell? ⟨g, k * 2, none⟩ = some (.string x.key) ∧ wr.cell? ⟨g, k * 2 + 1, none⟩ = some (.string x.value) := by
  obtain ⟨-, -, -, -, cur, hg, -, hrow⟩ := h.at encL_len
  exact ⟨by rw [cell_of_row _ g _ cur _ _ hg]; exact hrow _ x hx 0 (by decide), by rw [cell_of_row _ g _ cur _ _ hg]; exact hrow _ x hx 1 (by decide)⟩
theorem row_frz {base g n cap : Nat} {wr : World} {l : List Label} (h : RowE encL 2 98 base wr l (.slice (some ⟨g, 0, none⟩) n cap)) : (∀ o, wr.frozen? ⟨g, o, none⟩ = false) ∧ g < wr.heap.size := by
  obtain ⟨-, -, -, -, cur, hg, -, -⟩ := h.at encL_len
  exact ⟨fun o => frozen_row hg o, row_lt hg⟩
def T_sym (n : Nat) : Prop := ∀ (l : List Label) (N g cap base a m b : Nat) (w : World) (_ : b - a ≤ n) (_ : l.length = N) (_ : RowE encL 2 98 base w l (.slice (some ⟨g, 0, none⟩) N cap)) (_ : N ≤ 1048576) (_ : a < m) (_ : m < b) (_ : b ≤ N),
    Calls Tryz.prog 223 #[.slice (some ⟨g, 0, none⟩) N cap, .int .i64 a, .int .i64 m, .int .i64 b, .func (.func 123) #[] #[]] w fun e w' => ∃ l' : List Label, e = .returned (.tuple #[]) ∧ SubL l' l ∧ RowE encL 2 98 base w' l' (.slice (some ⟨g, 0, none⟩) N cap) ∧ Aside (fun q => q = g) w w'
set_option maxHeartbeats 4000000 in
set_option maxRecDepth 10000 in
theorem of_sym (n : Nat) (ih : ∀ k, k < n → T_sym k) : T_sym n := by
  intro l N g cap base a m b w hn hN h hl ham hmb hb
  have H := Lib.hid h
  have HN := Lib.hid hN
  have Hih := Lib.hid ih
  clear h hN ih
  go_enter Tryz.func223, Tryz.ntmps223
  by_cases h1 : (m : Int) - a = 1
  · go_wp2_with fail
    go_loopw [10, 11] (fun s10 s11 wr => ∃ (i j : Nat), m ≤ i ∧ i ≤ j ∧ j ≤ b ∧ s10 = .int .i64 i ∧ s11 = .int .i64 j ∧ Below w.heap.size w wr) (fun s10 s11 _ => (intOf s11).toNat - (intOf s10).toNat)
    case atStart => exact ⟨m, b, Nat.le_refl _, by omega, Nat.le_refl _, rfl, rfl, Below.refl _ _⟩
    case round =>
      obtain ⟨i, j, hmi, hij, hjb, rfl, rfl, hbr⟩ := hrel
      have HRr := Lib.hid (H.out.below hbr)
      obtain ⟨hfz, hgl⟩ := row_frz HRr.out
      by_cases hlt : i < j
      · have hlt2 : (i : Int) < j := by omega
        obtain ⟨h, hh⟩ : ∃ h : Nat, h = (i + j) / 2 := ⟨_, rfl⟩
        have hh1 : i ≤ h := by omega
        have hh2 : h < j := by omega
        have HH := Lib.hid (show ((i : Int) + j) / 2 = (h : Int) by omega)
        clear hh
        obtain ⟨x, hx⟩ := exists_at (l := l) (k := h) (by rw [HN.out]; omega)
        obtain ⟨y, hy⟩ := exists_at (l := l) (k := a) (by rw [HN.out]; omega)
        obtain ⟨x0, x1⟩ := two_cells HRr.out hx
        obtain ⟨y0, y1⟩ := two_cells HRr.out hy
        clear hx hy
        have e0 : (h : Int) < N := by omega
        have e1 : (a : Int) < N := by omega
        have e2 : (0 : Int) ≤ h := by omega
        have e3 : (0 : Int) ≤ a := by omega
        go_wp2_with fail
        rw [HH.out]
        obtain ⟨cc, hcc⟩ : ∃ cc, cc = cmpS x.key y.key := ⟨_, rfl⟩
        have HC := Lib.hid hcc
        clear hcc
        by_cases hc : cc < 0
        · skip
          refine wp_region_det 11 (by kernel_rfl) (by kernel_rfl) (by decide) ?_
          apply Exists.intro
          refine And.intro ?_ ?_
          · (intro W hW; (try simp only [Act.put, List.setIfInBounds_toArray, List.set_cons_zero, List.set_cons_succ]); first | (go_wp2_with fail; exact ⟨rfl, rfl, Below.refl _ _⟩))
          apply Exists.intro
          refine And.intro ?_ ?_
          · (intro W hW; (try simp only [Act.put, List.setIfInBounds_toArray, List.set_cons_zero, List.set_cons_succ]); first | (go_wp2_with fail; exact ⟨rfl, rfl, Below.refl _ _⟩))
          apply Exists.intro
          refine And.intro ?_ ?_
          · (intro W hW; (try simp only [Act.put, List.setIfInBounds_toArray, List.set_cons_zero, List.set_cons_succ]); first | (go_wp2_with fail; exact ⟨rfl, rfl, Below.refl _ _⟩))
          apply Exists.intro
          refine And.intro ?_ ?_
          · (intro W hW; (try simp only [Act.put, List.setIfInBounds_toArray, List.set_cons_zero, List.set_cons_succ]); first | (go_wp2_with fail; exact ⟨rfl, rfl, Below.refl _ _⟩))
          apply Exists.intro
          refine And.intro ?_ ?_
          · (intro W hW; (try simp only [Act.put, List.setIfInBounds_toArray, List.set_cons_zero, List.set_cons_succ]); first | (obtain ⟨hcW, hfW⟩ := bcell hW; have hsW := hW.size; (try simp at hsW); (try have hsW0 := lt_of_succ_le hsW); (try (have hsW1 := lt_pred hsW; (try (have hsW2 := lt_pred hsW1)))); go_wp2_with fail; exact ⟨rfl, rfl, Below.refl _ _⟩))
          apply Exists.intro
          refine And.intro ?_ ?_
          · (intro W hW; (try simp only [Act.put, List.setIfInBounds_toArray, List.set_cons_zero, List.set_cons_succ]); first | (go_wp2_with fail; exact ⟨rfl, rfl, Below.refl _ _⟩))
          apply Exists.intro
          refine And.intro ?_ ?_
          · (intro W hW; (try simp only [Act.put, List.setIfInBounds_toArray, List.set_cons_zero, List.set_cons_succ]); first | (go_wp2_with fail; exact ⟨rfl, rfl, Below.refl _ _⟩))
          apply Exists.intro
          refine And.intro ?_ ?_
          · (intro W hW; (try simp only [Act.put, List.setIfInBounds_toArray, List.set_cons_zero, List.set_cons_succ]); first | (go_wp2_with fail; exact ⟨rfl, rfl, Below.refl _ _⟩))
          apply Exists.intro
          refine And.intro ?_ ?_
          · (intro W hW; (try simp only [Act.put, List.setIfInBounds_toArray, List.set_cons_zero, List.set_cons_succ]); first | (obtain ⟨hcW, hfW⟩ := bcell hW; have hsW := hW.size; (try simp at hsW); (try have hsW0 := lt_of_succ_le hsW); (try (have hsW1 := lt_pred hsW; (try (have hsW2 := lt_pred hsW1)))); go_wp2_with fail; exact ⟨rfl, rfl, Below.refl _ _⟩))
          apply Exists.intro
          refine And.intro ?_ ?_
          · (intro W hW; (try simp only [Act.put, List.setIfInBounds_toArray, List.set_cons_zero, List.set_cons_succ]); first | (obtain ⟨hcW, hfW⟩ := bcell hW; have hsW := hW.size; (try simp at hsW); (try have hsW0 := lt_of_succ_le hsW); (try (have hsW1 := lt_pred hsW; (try (have hsW2 := lt_pred hsW1)))); go_wp2_with (first | (go_at_call 123; refine (c_lab1 x y _).mono ?_; rintro e w9 ⟨rfl, hb9⟩; rw [← HC.out])); exact ⟨rfl, rfl, bel⟩))
          apply Exists.intro
          refine And.intro ?_ ?_
          · (intro W hW; (try simp only [Act.put, List.setIfInBounds_toArray, List.set_cons_zero, List.set_cons_succ]); first | (go_wp2_with fail; exact ⟨rfl, rfl, Below.refl _ _⟩))
          intro w1 hb
          (first | (have hcu2 := Cum.join hcu hb; (try clear hcu); (try clear hc); (try clear hfz); (try clear hsz); (try clear hs0); (try clear hs1); (try clear hs2); (try clear hs3); (try clear hs4); ) | have hcu2 := Cum.mk hb); have hcu := hcu2; clear hcu2; obtain ⟨hc, hfz⟩ := bcell hcu.h; have hsz := hcu.h.size; (try simp at hsz); (try have hs0 := lt_of_succ_le hsz); (try (have hs1 := lt_pred hsz; (try (have hs2 := lt_pred hs1; (try (have hs3 := lt_pred hs2; (try have hs4 := lt_pred hs3)))))))
          (try simp only [Act.put, List.setIfInBounds_toArray, List.set_cons_zero, List.set_cons_succ])
          (try simp only [List.drop_succ_cons, List.drop_nil])
          have Bq := Lib.hid (ext_trans hbr hb)
          go_wp2_with fail
          go_roundw
          case rel => exact ⟨h + 1, j, by omega, by omega, hjb, by go_num, rfl, Bq.out⟩
          case measure => simp [intOf]; omega
        · have hcb : 0 ≤ cc := by omega
          clear hc
          refine wp_region_det 11 (by kernel_rfl) (by kernel_rfl) (by decide) ?_
          apply Exists.intro
          refine And.intro ?_ ?_
          · (intro W hW; (try simp only [Act.put, List.setIfInBounds_toArray, List.set_cons_zero, List.set_cons_succ]); first | (go_wp2_with fail; exact ⟨rfl, rfl, Below.refl _ _⟩))
          apply Exists.intro
          refine And.intro ?_ ?_
          · (intro W hW; (try simp only [Act.put, List.setIfInBounds_toArray, List.set_cons_zero, List.set_cons_succ]); first | (go_wp2_with fail; exact ⟨rfl, rfl, Below.refl _ _⟩))
          apply Exists.intro
          refine And.intro ?_ ?_
          · (intro W hW; (try simp only [Act.put, List.setIfInBounds_toArray, List.set_cons_zero, List.set_cons_succ]); first | (go_wp2_with fail; exact ⟨rfl, rfl, Below.refl _ _⟩))
          apply Exists.intro
          refine And.intro ?_ ?_
          · (intro W hW; (try simp only [Act.put, List.setIfInBounds_toArray, List.set_cons_zero, List.set_cons_succ]); first | (go_wp2_with fail; exact ⟨rfl, rfl, Below.refl _ _⟩))
          apply Exists.intro
          refine And.intro ?_ ?_
          · (intro W hW; (try simp only [Act.put, List.setIfInBounds_toArray, List.set_cons_zero, List.set_cons_succ]); first | (obtain ⟨hcW, hfW⟩ := bcell hW; have hsW := hW.size; (try simp at hsW); (try have hsW0 := lt_of_succ_le hsW); (try (have hsW1 := lt_pred hsW; (try (have hsW2 := lt_pred hsW1)))); go_wp2_with fail; exact ⟨rfl, rfl, Below.refl _ _⟩))
          apply Exists.intro
          refine And.intro ?_ ?_
          · (intro W hW; (try simp only [Act.put, List.setIfInBounds_toArray, List.set_cons_zero, List.set_cons_succ]); first | (go_wp2_with fail; exact ⟨rfl, rfl, Below.refl _ _⟩))
          apply Exists.intro
          refine And.intro ?_ ?_
          · (intro W hW; (try simp only [Act.put, List.setIfInBounds_toArray, List.set_cons_zero, List.set_cons_succ]); first | (go_wp2_with fail; exact ⟨rfl, rfl, Below.refl _ _⟩))
          apply Exists.intro
          refine And.intro ?_ ?_
          · (intro W hW; (try simp only [Act.put, List.setIfInBounds_toArray, List.set_cons_zero, List.set_cons_succ]); first | (go_wp2_with fail; exact ⟨rfl, rfl, Below.refl _ _⟩))
          apply Exists.intro
          refine And.intro ?_ ?_
          · (intro W hW; (try simp only [Act.put, List.setIfInBounds_toArray, List.set_cons_zero, List.set_cons_succ]); first | (obtain ⟨hcW, hfW⟩ := bcell hW; have hsW := hW.size; (try simp at hsW); (try have hsW0 := lt_of_succ_le hsW); (try (have hsW1 := lt_pred hsW; (try (have hsW2 := lt_pred hsW1)))); go_wp2_with fail; exact ⟨rfl, rfl, Below.refl _ _⟩))
          apply Exists.intro
          refine And.intro ?_ ?_
          · (intro W hW; (try simp only [Act.put, List.setIfInBounds_toArray, List.set_cons_zero, List.set_cons_succ]); first | (obtain ⟨hcW, hfW⟩ := bcell hW; have hsW := hW.size; (try simp at hsW); (try have hsW0 := lt_of_succ_le hsW); (try (have hsW1 := lt_pred hsW; (try (have hsW2 := lt_pred hsW1)))); go_wp2_with (first | (go_at_call 123; refine (c_lab1 x y _).mono ?_; rintro e w9 ⟨rfl, hb9⟩; rw [← HC.out])); exact ⟨rfl, rfl, bel⟩))
          apply Exists.intro
          refine And.intro ?_ ?_
          · (intro W hW; (try simp only [Act.put, List.setIfInBounds_toArray, List.set_cons_zero, List.set_cons_succ]); first | (go_wp2_with fail; exact ⟨rfl, rfl, Below.refl _ _⟩))
          intro w1 hb
          (first | (have hcu2 := Cum.join hcu hb; (try clear hcu); (try clear hc); (try clear hfz); (try clear hsz); (try clear hs0); (try clear hs1); (try clear hs2); (try clear hs3); (try clear hs4); ) | have hcu2 := Cum.mk hb); have hcu := hcu2; clear hcu2; obtain ⟨hc, hfz⟩ := bcell hcu.h; have hsz := hcu.h.size; (try simp at hsz); (try have hs0 := lt_of_succ_le hsz); (try (have hs1 := lt_pred hsz; (try (have hs2 := lt_pred hs1; (try (have hs3 := lt_pred hs2; (try have hs4 := lt_pred hs3)))))))
          (try simp only [Act.put, List.setIfInBounds_toArray, List.set_cons_zero, List.set_cons_succ])
          (try simp only [List.drop_succ_cons, List.drop_nil])
          have Bq := Lib.hid (ext_trans hbr hb)
          go_wp2_with fail
          go_roundw
          case rel => exact ⟨i, h, hmi, by omega, by omega, rfl, rfl, Bq.out⟩
          case measure => simp [intOf]; omega
      · obtain rfl : i = j := by omega
        have HA := Lib.hid (show Aside (fun q => q = g) w wr from Aside.of_below hbr)
        go_wp2_with fail
        go_loopw [13] (fun s13 wr => ∃ (k : Nat) (l' : List Label), a ≤ k ∧ k ≤ i - 1 ∧ s13 = .int .i64 k ∧ SubL l' l ∧ RowE encL 2 98 base wr l' (.slice (some ⟨g, 0, none⟩) N cap) ∧ Aside (fun q => q = g) w wr) (fun s13 _ => i - (intOf s13).toNat)
        case atStart => exact ⟨a, l, Nat.le_refl _, by omega, rfl, SubL.refl _, HRr.out, HA.out⟩
        case round =>
          obtain ⟨k, l', hak, hki, rfl, hS, hR, hA⟩ := hrel
          have HS := Lib.hid hS
          have HR := Lib.hid hR
          have HA2 := Lib.hid hA
          have hll : l'.length = N := by rw [hS.1]; exact HN.out
          clear hS hA
          by_cases hlt : k < i - 1
          · have hlt2 : (k : Int) < i - 1 := by omega
            obtain ⟨x, hx⟩ := exists_at (l := l') (k := k) (by omega)
            obtain ⟨y, hy⟩ := exists_at (l := l') (k := k + 1) (by omega)
            obtain ⟨x0, x1⟩ := two_cells HR.out hx
            obtain ⟨y0, y1⟩ := two_cells HR.out hy
            obtain ⟨hfz2, hgl2⟩ := row_frz HR.out
            have e0 : (0 : Int) ≤ (k : Int) := by omega
            have e1 : (k : Int) < (N : Int) := by omega
            have e2 : (0 : Int) ≤ (k : Int) + 1 := by omega
            have e3 : (k : Int) + 1 < (N : Int) := by omega
            have n0 : ¬ (k) * 2 = (k + 1) * 2 := by omega
            have n1 : ¬ (k) * 2 + 1 = (k + 1) * 2 := by omega
            have n2 : ¬ (k) * 2 = (k + 1) * 2 + 1 := by omega
            have n3 : ¬ (k) * 2 + 1 = (k + 1) * 2 + 1 := by omega
            have HR2 := Lib.hid ((hR.store (k := k) encL_len (by decide) (by omega) (x := y)).store (k := k + 1) encL_len (by decide) (by rw [List.length_set]; omega) (x := x))
            have HS2 := Lib.hid (SubL.trans (SubL.swap (i := k) (j := k + 1) (List.mem_of_getElem? hx) (List.mem_of_getElem? hy)) HS.out)
            have mixed : Tryz.prog.follows Departure.mixedOrders = true := by kernel_rfl
            clear hx hy hR
            go_wp2_with fail
            go_big_region_o
            all_goals go_wp2
            go_roundw
            case rel => exact ⟨k + 1, _, by omega, by omega, by go_num, HS2.out, HR2.out.carry (fun _ _ => rfl), HA2.out.trans (aside_drew (Aside.setCell (Aside.setCell (Aside.setCell (Aside.setCell (Aside.refl _ _) rfl) rfl) rfl) rfl))⟩
            case measure => simp [intOf]; omega
          · have hlt2 : ¬ (k : Int) < i - 1 := by omega
            go_wp2_with fail
            (try simp only [Exit.inBlock, Exit.then])
            exact bodyPost_ret (results_none rfl _ _ _) rfl ⟨rfl, l', HS.out, HR.out, HA2.out⟩
  · have h1b : ((m : Int) - a == 1) = false := beq_eq_false_iff_ne.2 h1
    clear h1
    by_cases h2 : (b : Int) - m = 1
    · have h2b : ((b : Int) - m == 1) = true := beq_iff_eq.2 h2
      clear h2
      go_wp2_with fail
      go_loopw [14, 15] (fun s14 s15 wr => ∃ (i j : Nat), a ≤ i ∧ i ≤ j ∧ j ≤ m ∧ s14 = .int .i64 i ∧ s15 = .int .i64 j ∧ Below w.heap.size w wr) (fun s14 s15 _ => (intOf s15).toNat - (intOf s14).toNat)
      case atStart => exact ⟨a, m, Nat.le_refl _, by omega, Nat.le_refl _, rfl, rfl, Below.refl _ _⟩
      case round =>
        obtain ⟨i, j, hmi, hij, hjb, rfl, rfl, hbr⟩ := hrel
        have HRr := Lib.hid (H.out.below hbr)
        obtain ⟨hfz, hgl⟩ := row_frz HRr.out
        by_cases hlt : i < j
        · have hlt2 : (i : Int) < j := by omega
          obtain ⟨h, hh⟩ : ∃ h : Nat, h = (i + j) / 2 := ⟨_, rfl⟩
          have hh1 : i ≤ h := by omega
          have hh2 : h < j := by omega
          have HH := Lib.hid (show ((i : Int) + j) / 2 = (h : Int) by omega)
          clear hh
          obtain ⟨x, hx⟩ := exists_at (l := l) (k := m) (by rw [HN.out]; omega)
          obtain ⟨y, hy⟩ := exists_at (l := l) (k := h) (by rw [HN.out]; omega)
          obtain ⟨x0, x1⟩ := two_cells HRr.out hx
          obtain ⟨y0, y1⟩ := two_cells HRr.out hy
          clear hx hy
          have e0 : (h : Int) < N := by omega
          have e1 : (m : Int) < N := by omega
          have e2 : (0 : Int) ≤ h := by omega
          have e3 : (0 : Int) ≤ m := by omega
          go_wp2_with fail
          rw [HH.out]
          obtain ⟨cc, hcc⟩ : ∃ cc, cc = cmpS x.key y.key := ⟨_, rfl⟩
          have HC := Lib.hid hcc
          clear hcc
          by_cases hc : cc < 0
          · skip
            refine wp_region_det 12 (by kernel_rfl) (by kernel_rfl) (by decide) ?_
            apply Exists.intro
            refine And.intro ?_ ?_
            · (intro W hW; (try simp only [Act.put, List.setIfInBounds_toArray, List.set_cons_zero, List.set_cons_succ]); first | (go_wp2_with fail; exact ⟨rfl, rfl, Below.refl _ _⟩))
            apply Exists.intro
            refine And.intro ?_ ?_
            · (intro W hW; (try simp only [Act.put, List.setIfInBounds_toArray, List.set_cons_zero, List.set_cons_succ]); first | (go_wp2_with fail; exact ⟨rfl, rfl, Below.refl _ _⟩))
            apply Exists.intro
            refine And.intro ?_ ?_
            · (intro W hW; (try simp only [Act.put, List.setIfInBounds_toArray, List.set_cons_zero, List.set_cons_succ]); first | (go_wp2_with fail; exact ⟨rfl, rfl, Below.refl _ _⟩))
            apply Exists.intro
            refine And.intro ?_ ?_
            · (intro W hW; (try simp only [Act.put, List.setIfInBounds_toArray, List.set_cons_zero, List.set_cons_succ]); first | (go_wp2_with fail; exact ⟨rfl, rfl, Below.refl _ _⟩))
            apply Exists.intro
            refine And.intro ?_ ?_
            · (intro W hW; (try simp only [Act.put, List.setIfInBounds_toArray, List.set_cons_zero, List.set_cons_succ]); first | (obtain ⟨hcW, hfW⟩ := bcell hW; have hsW := hW.size; (try simp at hsW); (try have hsW0 := lt_of_succ_le hsW); (try (have hsW1 := lt_pred hsW; (try (have hsW2 := lt_pred hsW1)))); go_wp2_with fail; exact ⟨rfl, rfl, Below.refl _ _⟩))
            apply Exists.intro
            refine And.intro ?_ ?_
            · (intro W hW; (try simp only [Act.put, List.setIfInBounds_toArray, List.set_cons_zero, List.set_cons_succ]); first | (go_wp2_with fail; exact ⟨rfl, rfl, Below.refl _ _⟩))
            apply Exists.intro
            refine And.intro ?_ ?_
            · (intro W hW; (try simp only [Act.put, List.setIfInBounds_toArray, List.set_cons_zero, List.set_cons_succ]); first | (go_wp2_with fail; exact ⟨rfl, rfl, Below.refl _ _⟩))
            apply Exists.intro
            refine And.intro ?_ ?_
            · (intro W hW; (try simp only [Act.put, List.setIfInBounds_toArray, List.set_cons_zero, List.set_cons_succ]); first | (go_wp2_with fail; exact ⟨rfl, rfl, Below.refl _ _⟩))
            apply Exists.intro
            refine And.intro ?_ ?_
            · (intro W hW; (try simp only [Act.put, List.setIfInBounds_toArray, List.set_cons_zero, List.set_cons_succ]); first | (obtain ⟨hcW, hfW⟩ := bcell hW; have hsW := hW.size; (try simp at hsW); (try have hsW0 := lt_of_succ_le hsW); (try (have hsW1 := lt_pred hsW; (try (have hsW2 := lt_pred hsW1)))); go_wp2_with fail; exact ⟨rfl, rfl, Below.refl _ _⟩))
            apply Exists.intro
            refine And.intro ?_ ?_
            · (intro W hW; (try simp only [Act.put, List.setIfInBounds_toArray, List.set_cons_zero, List.set_cons_succ]); first | (obtain ⟨hcW, hfW⟩ := bcell hW; have hsW := hW.size; (try simp at hsW); (try have hsW0 := lt_of_succ_le hsW); (try (have hsW1 := lt_pred hsW; (try (have hsW2 := lt_pred hsW1)))); go_wp2_with (first | (go_at_call 123; refine (c_lab1 x y _).mono ?_; rintro e w9 ⟨rfl, hb9⟩; rw [← HC.out])); exact ⟨rfl, rfl, bel⟩))
            apply Exists.intro
            refine And.intro ?_ ?_
            · (intro W hW; (try simp only [Act.put, List.setIfInBounds_toArray, List.set_cons_zero, List.set_cons_succ]); first | (go_wp2_with fail; exact ⟨rfl, rfl, Below.refl _ _⟩))
            apply Exists.intro
            refine And.intro ?_ ?_
            · (intro W hW; (try simp only [Act.put, List.setIfInBounds_toArray, List.set_cons_zero, List.set_cons_succ]); first | (go_wp2_with fail; exact ⟨rfl, rfl, Below.refl _ _⟩))
            intro w1 hb
            (first | (have hcu2 := Cum.join hcu hb; (try clear hcu); (try clear hc); (try clear hfz); (try clear hsz); (try clear hs0); (try clear hs1); (try clear hs2); (try clear hs3); (try clear hs4); ) | have hcu2 := Cum.mk hb); have hcu := hcu2; clear hcu2; obtain ⟨hc, hfz⟩ := bcell hcu.h; have hsz := hcu.h.size; (try simp at hsz); (try have hs0 := lt_of_succ_le hsz); (try (have hs1 := lt_pred hsz; (try (have hs2 := lt_pred hs1; (try (have hs3 := lt_pred hs2; (try have hs4 := lt_pred hs3)))))))
            (try simp only [Act.put, List.setIfInBounds_toArray, List.set_cons_zero, List.set_cons_succ])
            (try simp only [List.drop_succ_cons, List.drop_nil])
            have Bq := Lib.hid (ext_trans hbr hb)
            go_wp2_with fail
            go_roundw
            case rel => exact ⟨i, h, hmi, by omega, by omega, rfl, rfl, Bq.out⟩
            case measure => simp [intOf]; omega
          · have hcb : 0 ≤ cc := by omega
            clear hc
            refine wp_region_det 12 (by kernel_rfl) (by kernel_rfl) (by decide) ?_
            apply Exists.intro
            refine And.intro ?_ ?_
            · (intro W hW; (try simp only [Act.put, List.setIfInBounds_toArray, List.set_cons_zero, List.set_cons_succ]); first | (go_wp2_with fail; exact ⟨rfl, rfl, Below.refl _ _⟩))
            apply Exists.intro
            refine And.intro ?_ ?_
            · (intro W hW; (try simp only [Act.put, List.setIfInBounds_toArray, List.set_cons_zero, List.set_cons_succ]); first | (go_wp2_with fail; exact ⟨rfl, rfl, Below.refl _ _⟩))
            apply Exists.intro
            refine And.intro ?_ ?_
            · (intro W hW; (try simp only [Act.put, List.setIfInBounds_toArray, List.set_cons_zero, List.set_cons_succ]); first | (go_wp2_with fail; exact ⟨rfl, rfl, Below.refl _ _⟩))
            apply Exists.intro
            refine And.intro ?_ ?_
            · (intro W hW; (try simp only [Act.put, List.setIfInBounds_toArray, List.set_cons_zero, List.set_cons_succ]); first | (go_wp2_with fail; exact ⟨rfl, rfl, Below.refl _ _⟩))
            apply Exists.intro
            refine And.intro ?_ ?_
            · (intro W hW; (try simp only [Act.put, List.setIfInBounds_toArray, List.set_cons_zero, List.set_cons_succ]); first | (obtain ⟨hcW, hfW⟩ := bcell hW; have hsW := hW.size; (try simp at hsW); (try have hsW0 := lt_of_succ_le hsW); (try (have hsW1 := lt_pred hsW; (try (have hsW2 := lt_pred hsW1)))); go_wp2_with fail; exact ⟨rfl, rfl, Below.refl _ _⟩))
            apply Exists.intro
            refine And.intro ?_ ?_
            · (intro W hW; (try simp only [Act.put, List.setIfInBounds_toArray, List.set_cons_zero, List.set_cons_succ]); first | (go_wp2_with fail; exact ⟨rfl, rfl, Below.refl _ _⟩))
            apply Exists.intro
            refine And.intro ?_ ?_
            · (intro W hW; (try simp only [Act.put, List.setIfInBounds_toArray, List.set_cons_zero, List.set_cons_succ]); first | (go_wp2_with fail; exact ⟨rfl, rfl, Below.refl _ _⟩))
            apply Exists.intro
            refine And.intro ?_ ?_
            · (intro W hW; (try simp only [Act.put, List.setIfInBounds_toArray, List.set_cons_zero, List.set_cons_succ]); first | (go_wp2_with fail; exact ⟨rfl, rfl, Below.refl _ _⟩))
            apply Exists.intro
            refine And.intro ?_ ?_
            · (intro W hW; (try simp only [Act.put, List.setIfInBounds_toArray, List.set_cons_zero, List.set_cons_succ]); first | (obtain ⟨hcW, hfW⟩ := bcell hW; have hsW := hW.size; (try simp at hsW); (try have hsW0 := lt_of_succ_le hsW); (try (have hsW1 := lt_pred hsW; (try (have hsW2 := lt_pred hsW1)))); go_wp2_with fail; exact ⟨rfl, rfl, Below.refl _ _⟩))
            apply Exists.intro
            refine And.intro ?_ ?_
            · (intro W hW; (try simp only [Act.put, List.setIfInBounds_toArray, List.set_cons_zero, List.set_cons_succ]); first | (obtain ⟨hcW, hfW⟩ := bcell hW; have hsW := hW.size; (try simp at hsW); (try have hsW0 := lt_of_succ_le hsW); (try (have hsW1 := lt_pred hsW; (try (have hsW2 := lt_pred hsW1)))); go_wp2_with (first | (go_at_call 123; refine (c_lab1 x y _).mono ?_; rintro e w9 ⟨rfl, hb9⟩; rw [← HC.out])); exact ⟨rfl, rfl, bel⟩))
            apply Exists.intro
            refine And.intro ?_ ?_
            · (intro W hW; (try simp only [Act.put, List.setIfInBounds_toArray, List.set_cons_zero, List.set_cons_succ]); first | (go_wp2_with fail; exact ⟨rfl, rfl, Below.refl _ _⟩))
            apply Exists.intro
            refine And.intro ?_ ?_
            · (intro W hW; (try simp only [Act.put, List.setIfInBounds_toArray, List.set_cons_zero, List.set_cons_succ]); first | (go_wp2_with fail; exact ⟨rfl, rfl, Below.refl _ _⟩))
            intro w1 hb
            (first | (have hcu2 := Cum.join hcu hb; (try clear hcu); (try clear hc); (try clear hfz); (try clear hsz); (try clear hs0); (try clear hs1); (try clear hs2); (try clear hs3); (try clear hs4); ) | have hcu2 := Cum.mk hb); have hcu := hcu2; clear hcu2; obtain ⟨hc, hfz⟩ := bcell hcu.h; have hsz := hcu.h.size; (try simp at hsz); (try have hs0 := lt_of_succ_le hsz); (try (have hs1 := lt_pred hsz; (try (have hs2 := lt_pred hs1; (try (have hs3 := lt_pred hs2; (try have hs4 := lt_pred hs3)))))))
            (try simp only [Act.put, List.setIfInBounds_toArray, List.set_cons_zero, List.set_cons_succ])
            (try simp only [List.drop_succ_cons, List.drop_nil])
            have Bq := Lib.hid (ext_trans hbr hb)
            go_wp2_with fail
            go_roundw
            case rel => exact ⟨h + 1, j, by omega, by omega, hjb, by go_num, rfl, Bq.out⟩
            case measure => simp [intOf]; omega
            go_roundw
            case rel => exact ⟨i, h, hmi, by omega, by omega, rfl, rfl, Bq.out⟩
            case measure => simp [intOf]; omega
        · obtain rfl : i = j := by omega
          have HA := Lib.hid (show Aside (fun q => q = g) w wr from Aside.of_below hbr)
          go_wp2_with fail
          go_loopw [17] (fun s17 wr => ∃ (k : Nat) (l' : List Label), i ≤ k ∧ k ≤ m ∧ s17 = .int .i64 k ∧ SubL l' l ∧ RowE encL 2 98 base wr l' (.slice (some ⟨g, 0, none⟩) N cap) ∧ Aside (fun q => q = g) w wr) (fun s17 _ => (intOf s17).toNat)
          case atStart => exact ⟨m, l, by omega, Nat.le_refl _, rfl, SubL.refl _, HRr.out, HA.out⟩
          case round =>
            obtain ⟨k, l', hak, hki, rfl, hS, hR, hA⟩ := hrel
            have HS := Lib.hid hS
            have HR := Lib.hid hR
            have HA2 := Lib.hid hA
            have hll : l'.length = N := by rw [hS.1]; exact HN.out
            clear hS hA
            by_cases hlt : i < k
            · have hlt2 : (i : Int) < k := by omega
              obtain ⟨x, hx⟩ := exists_at (l := l') (k := k) (by omega)
              obtain ⟨y, hy⟩ := exists_at (l := l') (k := k - 1) (by omega)
              obtain ⟨x0, x1⟩ := two_cells HR.out hx
              obtain ⟨y0, y1⟩ := two_cells HR.out hy
              obtain ⟨hfz2, hgl2⟩ := row_frz HR.out
              have e0 : (0 : Int) ≤ (k : Int) := by omega
              have e1 : (k : Int) < (N : Int) := by omega
              have e2 : (0 : Int) ≤ (k : Int) - 1 := by omega
              have e3 : (k : Int) - 1 < (N : Int) := by omega
              have n0 : ¬ (k) * 2 = (k - 1) * 2 := by omega
              have n1 : ¬ (k) * 2 + 1 = (k - 1) * 2 := by omega
              have n2 : ¬ (k) * 2 = (k - 1) * 2 + 1 := by omega
              have n3 : ¬ (k) * 2 + 1 = (k - 1) * 2 + 1 := by omega
              have HR2 := Lib.hid ((hR.store (k := k) encL_len (by decide) (by omega) (x := y)).store (k := k - 1) encL_len (by decide) (by rw [List.length_set]; omega) (x := x))
              have HS2 := Lib.hid (SubL.trans (SubL.swap (i := k) (j := k - 1) (List.mem_of_getElem? hx) (List.mem_of_getElem? hy)) HS.out)
              have mixed : Tryz.prog.follows Departure.mixedOrders = true := by kernel_rfl
              clear hx hy hR
              go_wp2_with fail
              go_big_region_o
              all_goals go_wp2
              go_roundw
              case rel => exact ⟨k - 1, _, by omega, by omega, by go_num, HS2.out, HR2.out.carry (fun _ _ => rfl), HA2.out.trans (aside_drew (Aside.setCell (Aside.setCell (Aside.setCell (Aside.setCell (Aside.refl _ _) rfl) rfl) rfl) rfl))⟩
              case measure => simp [intOf]; omega
            · have hlt2 : ¬ (i : Int) < k := by omega
              go_wp2_with fail
              (try simp only [Exit.inBlock, Exit.then])
              exact bodyPost_ret (results_none rfl _ _ _) rfl ⟨rfl, l', HS.out, HR.out, HA2.out⟩
    · have h2b : ((b : Int) - m == 1) = false := beq_eq_false_iff_ne.2 h2
      clear h2
      obtain ⟨mid, hmid⟩ : ∃ k : Nat, k = (a + b) / 2 := ⟨_, rfl⟩
      have HM := Lib.hid (show ((a : Int) + b) / 2 = (mid : Int) by omega)
      have hm1 : a < mid := by omega
      have hm2 : mid < b := by omega
      have hm3 : 2 * mid ≤ a + b := by omega
      have hm4 : a + b ≤ 2 * mid + 1 := by omega
      clear hmid
      go_upto_region 25 with fail
      rw [HM.out]
      go_upto_if 140 with fail
      go_cut [20, 21] from 138 to 146 (fun s20 s21 wx => ∃ st r : Nat, s20 = .int .i64 st ∧ s21 = .int .i64 r ∧ a ≤ st ∧ mid + m ≤ st + b ∧ st ≤ r ∧ r ≤ m ∧ r ≤ mid ∧ w = wx)
      case first =>
        by_cases hgt : (mid : Int) < m
        · go_wp2_with fail
          go_meet
          exact ⟨mid + m - b, mid, by go_num, rfl, by omega, by omega, by omega, by omega, by omega, rfl⟩
        · go_wp2_with fail
          go_meet
          exact ⟨a, m, rfl, rfl, by omega, by omega, by omega, by omega, by omega, rfl⟩
      case rest =>
        obtain ⟨st, r, rfl, rfl, q1, q2, q3, q4, q5, rfl⟩ := hcut
        go_wp2_with fail
        go_loopw [20, 21] (fun s20 s21 wr => ∃ (st r : Nat), s20 = .int .i64 st ∧ s21 = .int .i64 r ∧ a ≤ st ∧ mid + m ≤ st + b ∧ st ≤ r ∧ r ≤ m ∧ r ≤ mid ∧ Below w.heap.size w wr) (fun s20 s21 _ => (intOf s21).toNat - (intOf s20).toNat)
        case atStart => exact ⟨st, r, rfl, rfl, q1, q2, q3, q4, q5, Below.refl _ _⟩
        case round =>
          clear q1 q2 q3 q4 q5
          obtain ⟨i, j, rfl, rfl, q1, q2, q3, q4, q5, hbr⟩ := hrel
          have HRr := Lib.hid (H.out.below hbr)
          obtain ⟨hfz, hgl⟩ := row_frz HRr.out
          by_cases hlt : i < j
          · have hlt2 : (i : Int) < j := by omega
            obtain ⟨h, hh⟩ : ∃ h : Nat, h = (i + j) / 2 := ⟨_, rfl⟩
            have hh1 : i ≤ h := by omega
            have hh2 : h < j := by omega
            have HH := Lib.hid (show ((i : Int) + j) / 2 = (h : Int) by omega)
            clear hh
            obtain ⟨x, hx⟩ := exists_at (l := l) (k := mid + m - 1 - h) (by rw [HN.out]; omega)
            obtain ⟨y, hy⟩ := exists_at (l := l) (k := h) (by rw [HN.out]; omega)
            obtain ⟨x0, x1⟩ := two_cells HRr.out hx
            obtain ⟨y0, y1⟩ := two_cells HRr.out hy
            clear hx hy
            have e0 : (h : Int) < N := by omega
            have e1 : (mid : Int) + m - 1 - h < N := by omega
            have e2 : (0 : Int) ≤ h := by omega
            have e3 : (0 : Int) ≤ (mid : Int) + m - 1 - h := by omega
            go_upto_region 35 with fail
            rw [HH.out]
            obtain ⟨cc, hcc⟩ : ∃ cc, cc = cmpS x.key y.key := ⟨_, rfl⟩
            have HC := Lib.hid hcc
            clear hcc
            refine wp_region_det 14 (by kernel_rfl) (by kernel_rfl) (by decide) ?_
            apply Exists.intro
            refine And.intro ?_ ?_
            · (intro W hW; (try simp only [Act.put, List.setIfInBounds_toArray, List.set_cons_zero, List.set_cons_succ]); first | (go_wp2_with fail; exact ⟨rfl, rfl, Below.refl _ _⟩))
            apply Exists.intro
            refine And.intro ?_ ?_
            · (intro W hW; (try simp only [Act.put, List.setIfInBounds_toArray, List.set_cons_zero, List.set_cons_succ]); first | (go_wp2_with fail; exact ⟨rfl, rfl, Below.refl _ _⟩))
            apply Exists.intro
            refine And.intro ?_ ?_
            · (intro W hW; (try simp only [Act.put, List.setIfInBounds_toArray, List.set_cons_zero, List.set_cons_succ]); first | (go_wp2_with fail; exact ⟨rfl, rfl, Below.refl _ _⟩))
            apply Exists.intro
            refine And.intro ?_ ?_
            · (intro W hW; (try simp only [Act.put, List.setIfInBounds_toArray, List.set_cons_zero, List.set_cons_succ]); first | (go_wp2_with fail; exact ⟨rfl, rfl, Below.refl _ _⟩))
            apply Exists.intro
            refine And.intro ?_ ?_
            · (intro W hW; (try simp only [Act.put, List.setIfInBounds_toArray, List.set_cons_zero, List.set_cons_succ]); first | (go_wp2_with fail; exact ⟨rfl, rfl, Below.refl _ _⟩))
            apply Exists.intro
            refine And.intro ?_ ?_
            · (intro W hW; (try simp only [Act.put, List.setIfInBounds_toArray, List.set_cons_zero, List.set_cons_succ]); first | (go_wp2_with fail; exact ⟨rfl, rfl, Below.refl _ _⟩))
            apply Exists.intro
            refine And.intro ?_ ?_
            · (intro W hW; (try simp only [Act.put, List.setIfInBounds_toArray, List.set_cons_zero, List.set_cons_succ]); first | (obtain ⟨hcW, hfW⟩ := bcell hW; have hsW := hW.size; (try simp at hsW); (try have hsW0 := lt_of_succ_le hsW); (try (have hsW1 := lt_pred hsW; (try (have hsW2 := lt_pred hsW1)))); go_wp2_with fail; exact ⟨rfl, rfl, Below.refl _ _⟩))
            apply Exists.intro
            refine And.intro ?_ ?_
            · (intro W hW; (try simp only [Act.put, List.setIfInBounds_toArray, List.set_cons_zero, List.set_cons_succ]); first | (go_wp2_with fail; exact ⟨rfl, rfl, Below.refl _ _⟩))
            apply Exists.intro
            refine And.intro ?_ ?_
            · (intro W hW; (try simp only [Act.put, List.setIfInBounds_toArray, List.set_cons_zero, List.set_cons_succ]); first | (go_wp2_with fail; exact ⟨rfl, rfl, Below.refl _ _⟩))
            apply Exists.intro
            refine And.intro ?_ ?_
            · (intro W hW; (try simp only [Act.put, List.setIfInBounds_toArray, List.set_cons_zero, List.set_cons_succ]); first | (go_wp2_with fail; exact ⟨rfl, rfl, Below.refl _ _⟩))
            apply Exists.intro
            refine And.intro ?_ ?_
            · (intro W hW; (try simp only [Act.put, List.setIfInBounds_toArray, List.set_cons_zero, List.set_cons_succ]); first | (obtain ⟨hcW, hfW⟩ := bcell hW; have hsW := hW.size; (try simp at hsW); (try have hsW0 := lt_of_succ_le hsW); (try (have hsW1 := lt_pred hsW; (try (have hsW2 := lt_pred hsW1)))); go_wp2_with fail; exact ⟨rfl, rfl, Below.refl _ _⟩))
            apply Exists.intro
            refine And.intro ?_ ?_
            · (intro W hW; (try simp only [Act.put, List.setIfInBounds_toArray, List.set_cons_zero, List.set_cons_succ]); first | (obtain ⟨hcW, hfW⟩ := bcell hW; have hsW := hW.size; (try simp at hsW); (try have hsW0 := lt_of_succ_le hsW); (try (have hsW1 := lt_pred hsW; (try (have hsW2 := lt_pred hsW1)))); go_wp2_with (first | (go_at_call 123; refine (c_lab1 x y _).mono ?_; rintro e w9 ⟨rfl, hb9⟩; rw [← HC.out])); exact ⟨rfl, rfl, bel⟩))
            apply Exists.intro
            refine And.intro ?_ ?_
            · (intro W hW; (try simp only [Act.put, List.setIfInBounds_toArray, List.set_cons_zero, List.set_cons_succ]); first | (go_wp2_with fail; exact ⟨rfl, rfl, Below.refl _ _⟩))
            apply Exists.intro
            refine And.intro ?_ ?_
            · (intro W hW; (try simp only [Act.put, List.setIfInBounds_toArray, List.set_cons_zero, List.set_cons_succ]); first | (go_wp2_with fail; exact ⟨rfl, rfl, Below.refl _ _⟩))
            intro w1 hb
            (first | (have hcu2 := Cum.join hcu hb; (try clear hcu); (try clear hc); (try clear hfz); (try clear hsz); (try clear hs0); (try clear hs1); (try clear hs2); (try clear hs3); (try clear hs4); ) | have hcu2 := Cum.mk hb); have hcu := hcu2; clear hcu2; obtain ⟨hc, hfz⟩ := bcell hcu.h; have hsz := hcu.h.size; (try simp at hsz); (try have hs0 := lt_of_succ_le hsz); (try (have hs1 := lt_pred hsz; (try (have hs2 := lt_pred hs1; (try (have hs3 := lt_pred hs2; (try have hs4 := lt_pred hs3)))))))
            (try simp only [Act.put, List.setIfInBounds_toArray, List.set_cons_zero, List.set_cons_succ])
            (try simp only [List.drop_succ_cons, List.drop_nil])
            have Bq := Lib.hid (ext_trans hbr hb)
            go_wp2_with fail
            · go_roundw
              case rel => exact ⟨h + 1, j, by go_num, rfl, by omega, by omega, by omega, q4, q5, Bq.out⟩
              case measure => simp [intOf]; omega
            · go_roundw
              case rel => exact ⟨i, h, rfl, rfl, q1, q2, hh1, by omega, by omega, Bq.out⟩
              case measure => simp [intOf]; omega
          · obtain rfl : i = j := by omega
            have HA0 := Lib.hid (show Aside (fun q => q = g) w wr from Aside.of_below hbr)
            clear hfz hgl hlt
            go_upto_region 39 with fail
            go_cut [185] from 178 to 185 (fun s185 wx => s185 = .bool (decide (i < m ∧ m < mid + m - i)) ∧ wr = wx)
            case first =>
              by_cases c1 : (i : Int) < m
              · by_cases c2 : (m : Int) < mid + m - i
                · go_wp2_with fail
                  go_meet
                  exact ⟨congrArg Value.bool (decide_eq_true (p := i < m ∧ m < mid + m - i) (by omega)).symm, rfl⟩
                · go_wp2_with fail
                  go_meet
                  exact ⟨congrArg Value.bool (decide_eq_false (p := i < m ∧ m < mid + m - i) (by omega)).symm, rfl⟩
              · go_wp2_with fail
                go_meet
                exact ⟨congrArg Value.bool (decide_eq_false (p := i < m ∧ m < mid + m - i) (by omega)).symm, rfl⟩
            case rest =>
              obtain ⟨rfl, rfl⟩ := hcut
              go_upto_if 185 with fail
              go_cut [] from 178 to 191 (fun wx => ∃ l1 : List Label, SubL l1 l ∧ RowE encL 2 98 base wx l1 (.slice (some ⟨g, 0, none⟩) N cap) ∧ Aside (fun q => q = g) w wx)
              case first =>
                by_cases hp : i < m ∧ m < mid + m - i
                · rw [decide_eq_true hp]
                  go_wp2_with fail
                  have hrot := c_rotate l N g cap base i m (mid + m - i) (.func (.func 123) #[] #[]) _ HN.out HRr.out hl hp.1 hp.2 (by omega)
                  rw [show ((mid + m - i : Nat) : Int) = (mid : Int) + m - i by omega] at hrot
                  refine hrot.mono ?_
                  rintro e w1 ⟨l1, rfl, hS1, hR1, hA1⟩
                  go_wp2_with fail
                  go_meet
                  exact ⟨l1, hS1, hR1, HA0.out.trans hA1⟩
                · rw [decide_eq_false hp]
                  go_wp2_with fail
                  go_meet
                  exact ⟨l, SubL.refl _, HRr.out, HA0.out⟩
              case rest =>
                obtain ⟨l1, hS1, hR1, hA1⟩ := hcut
                have HS1 := Lib.hid hS1
                have HR1 := Lib.hid hR1
                have HA1 := Lib.hid hA1
                have hN1 := Lib.hid (show l1.length = N by rw [hS1.1]; exact HN.out)
                clear hS1 hR1 hA1 HRr HA0 hbr
                go_upto_region 41 with fail
                go_cut [199] from 192 to 199 (fun s199 wx => s199 = .bool (decide (a < i ∧ i < mid)) ∧ wc = wx)
                case first =>
                  by_cases c1 : (a : Int) < i
                  · by_cases c2 : (i : Int) < mid
                    · go_wp2_with fail
                      go_meet
                      exact ⟨congrArg Value.bool (decide_eq_true (p := a < i ∧ i < mid) (by omega)).symm, rfl⟩
                    · go_wp2_with fail
                      go_meet
                      exact ⟨congrArg Value.bool (decide_eq_false (p := a < i ∧ i < mid) (by omega)).symm, rfl⟩
                  · go_wp2_with fail
                    go_meet
                    exact ⟨congrArg Value.bool (decide_eq_false (p := a < i ∧ i < mid) (by omega)).symm, rfl⟩
                case rest =>
                  obtain ⟨rfl, rfl⟩ := hcut
                  go_upto_if 199 with fail
                  go_cut [] from 192 to 205 (fun wx => ∃ l1 : List Label, SubL l1 l ∧ RowE encL 2 98 base wx l1 (.slice (some ⟨g, 0, none⟩) N cap) ∧ Aside (fun q => q = g) w wx)
                  case first =>
                    by_cases hp : a < i ∧ i < mid
                    · rw [decide_eq_true hp]
                      go_wp2_with fail
                      refine (Hih.out (mid - a) (by omega) l1 N g cap base a i mid _ (Nat.le_refl _) hN1.out HR1.out hl hp.1 hp.2 (by omega)).mono ?_
                      rintro e w1 ⟨l2, rfl, hS2, hR2, hA2⟩
                      go_wp2_with fail
                      go_meet
                      exact ⟨l2, hS2.trans HS1.out, hR2, HA1.out.trans hA2⟩
                    · rw [decide_eq_false hp]
                      go_wp2_with fail
                      go_meet
                      exact ⟨l1, HS1.out, HR1.out, HA1.out⟩
                  case rest =>
                    clear HS1 HR1 HA1 hN1
                    obtain ⟨l2, hS2, hR2, hA2⟩ := hcut
                    have HS2 := Lib.hid hS2
                    have HR2 := Lib.hid hR2
                    have HA2 := Lib.hid hA2
                    have hN2 := Lib.hid (show l2.length = N by rw [hS2.1]; exact HN.out)
                    clear hS2 hR2 hA2
                    by_cases hp : mid < mid + m - i ∧ mid + m - i < b
                    · have c1 : (mid : Int) < mid + m - i := by omega
                      have c2 : (mid : Int) + m - i < b := by omega
                      go_wp2_with fail
                      have hrec := Hih.out (b - mid) (by omega) l2 N g cap base mid (mid + m - i) b _ (Nat.le_refl _) hN2.out HR2.out hl hp.1 hp.2 (by omega)
                      rw [show ((mid + m - i : Nat) : Int) = (mid : Int) + m - i by omega] at hrec
                      refine hrec.mono ?_
                      rintro e w1 ⟨l3, rfl, hS3, hR3, hA3⟩
                      go_wp2_with fail
                      go_end0
                      exact ⟨l3, rfl, hS3.trans HS2.out, hR3, HA2.out.trans hA3⟩
                    · by_cases c1 : (mid : Int) < mid + m - i
                      · have c2 : ¬ (mid : Int) + m - i < b := by omega
                        go_wp2_with fail
                        go_end0
                        exact ⟨rfl, l2, HS2.out, HR2.out, HA2.out⟩
                      · go_wp2_with fail
                        go_end0
                        exact ⟨rfl, l2, HS2.out, HR2.out, HA2.out⟩
theorem c_symMerge (n : Nat) : T_sym n := by
  induction n using Nat.strongRecOn with
  | ind n ih => exact of_sym n ih
end Go.Proofs.YtmhlnbihppojmaaGreat
namespace Go.Proofs.YtmhlnbihppojmaaGreat
open Go.Shelf
def insLabel_ren : Go.Shelf.Ren := ⟨fun | 20 => 222 | n => n, fun | 24 => 98 | 22 => 41 | 3 => 3 | 25 => 150 | 4 => 4 | 0 => 0 | n => n, fun | n => n⟩
theorem insLabel : Go.Proofs.SlLaysF0.n20 Tryz.prog insLabel_ren := {
  mixed := by kernel_rfl
  f20 := ⟨Tryz.f222.name, by decide, Tryz.func222.trans (congrArg some (by kernel_rfl))⟩
  t0 := Tryz.underlying0
  a0 := Tryz.isAgg0
  z0 := Tryz.sizeOf0
  v0 := Tryz.zeroValue0
  t3 := Tryz.underlying3
  a3 := Tryz.isAgg3
  z3 := Tryz.sizeOf3
  v3 := Tryz.zeroValue3
  t4 := Tryz.underlying4
  a4 := Tryz.isAgg4
  z4 := Tryz.sizeOf4
  v4 := Tryz.zeroValue4
  t22 := Tryz.underlying41
  a22 := Tryz.isAgg41
  z22 := Tryz.sizeOf41
  v22 := Tryz.zeroValue41
  t25 := Tryz.underlying150
  a25 := Tryz.isAgg150
  z25 := Tryz.sizeOf150
  v25 := Tryz.zeroValue150 }
end Go.Proofs.YtmhlnbihppojmaaGreat
namespace Go.Proofs.YtmhlnbihppojmaaGreat
open Go.RowKit
def Gr (W w' : World) : Prop := ∃ (q : Nat) (os' : Array Obj), w' = Go.Sort.grow (W.drewN q) os'
theorem Gr.refl (W : World) : Gr W W := ⟨0, #[], by rw [Go.Sort.grow_empty]; rfl⟩
theorem Gr.drew {W w' : World} (h : Gr W w') : Gr W w'.drew := by
  obtain ⟨q, os, rfl⟩ := h
  exact ⟨q + 1, os, rfl⟩
theorem Gr.alloc {W w' : World} (h : Gr W w') (o : Obj) : Gr W (w'.alloc o) := by
  obtain ⟨q, os, rfl⟩ := h
  exact ⟨q, os ++ #[o], by rw [Go.Sort.alloc_eq_grow, Go.Sort.grow_grow]⟩
theorem Gr.size {W w' : World} (h : Gr W w') : W.heap.size ≤ w'.heap.size := by
  obtain ⟨q, os, rfl⟩ := h
  simp [Go.Sort.grow, World.drewN]
theorem Gr.trans {W w1 w' : World} (h : Gr W w1) (k : Gr w1 w') : Gr W w' := by
  obtain ⟨q, os, rfl⟩ := h
  obtain ⟨q', os', rfl⟩ := k
  exact ⟨q + q', os ++ os', by simp [Go.Sort.grow, World.drewN, Array.append_assoc, Nat.add_assoc]⟩
theorem keepG_drew (W : World) : Gr W W.drew ∧ (∀ xb xo, xb < W.heap.size → W.drew.cell? ⟨xb, xo, none⟩ = W.cell? ⟨xb, xo, none⟩) := ⟨(Gr.refl W).drew, fun _ _ _ => rfl⟩
theorem keepG_same {W a : World} (h : Gr W a ∧ (∀ xb xo, xb < W.heap.size → a.cell? ⟨xb, xo, none⟩ = W.cell? ⟨xb, xo, none⟩)) : Gr W a ∧ (∀ xb xo, xb < W.heap.size → a.cell? ⟨xb, xo, none⟩ = W.cell? ⟨xb, xo, none⟩) := h
theorem keepG_alloc {W a : World} (h : Gr W a ∧ (∀ xb xo, xb < W.heap.size → a.cell? ⟨xb, xo, none⟩ = W.cell? ⟨xb, xo, none⟩)) (o : Obj) : Gr W (a.alloc o) ∧ (∀ xb xo, xb < W.heap.size → (a.alloc o).cell? ⟨xb, xo, none⟩ = W.cell? ⟨xb, xo, none⟩) :=
  ⟨h.1.alloc o, fun xb xo hb => (World.cell?_of_block (a := ⟨xb, xo, none⟩) (Below.heap_alloc a o xb (Nat.lt_of_lt_of_le hb h.1.size))).trans (h.2 xb xo hb)⟩
theorem heldG_step {W a : World} {X : Prop} (k : Gr W a ∧ X) : Gr W a := k.1
theorem x_compareTolerances (a b : Tolerance) (W : World) :
    Calls Tryz.prog 127 #[.agg #[.string a.key, .bool a.equal, .string a.value, .int .i64 a.effect], .agg #[.string b.key, .bool b.equal, .string b.value, .int .i64 b.effect]] W fun e w' => e = .returned (.int .i64 (cmpTol a b)) ∧ Gr W w' := by
  go_enter Tryz.func127, Tryz.ntmps127
  go_wp2_with fail
  go_region_held3 (fun w' => Gr ((W.alloc (.cells #[.string a.key, .bool a.equal, .string a.value, .int .i64 a.effect] 106)).alloc (.cells #[.string b.key, .bool b.equal, .string b.value, .int .i64 b.effect] 106)) w' ∧ (∀ xb xo, xb < ((W.alloc (.cells #[.string a.key, .bool a.equal, .string a.value, .int .i64 a.effect] 106)).alloc (.cells #[.string b.key, .bool b.equal, .string b.value, .int .i64 b.effect] 106)).heap.size → w'.cell? ⟨xb, xo, none⟩ = ((W.alloc (.cells #[.string a.key, .bool a.equal, .string a.value, .int .i64 a.effect] 106)).alloc (.cells #[.string b.key, .bool b.equal, .string b.value, .int .i64 b.effect] 106)).cell? ⟨xb, xo, none⟩)) (first | exact keepG_drew _ | exact keepG_same (by assumption) | exact keepG_alloc (by assumption) _) (first | (go_at_call 104; refine (c_strings_Compare _ _ _).mono ?_; rintro e w9 ⟨rfl, rfl⟩) | (go_at_call 105; refine (c_cmp_Compare _ _ _).mono ?_; rintro e w9 ⟨rfl, rfl⟩) | (go_at_call 190; refine (c_impl_compareFlags _ _ _).mono ?_; rintro e w9 ⟨rfl, rfl⟩) | (go_at_call 103; refine (c_cmp_Or4 (cmpS a.key b.key) (cmpF a.equal b.equal) (cmpS a.value b.value) (cmpI a.effect b.effect) _ _ 3 ?_).mono ?_; (focus ((try rw [heap_drew]); (try (refine heap_new ?_; simp)); done)); rintro e w9 ⟨rfl, rfl⟩))
  have hg := heldG_step (by assumption)
  go_wp2_with fail
  go_ret
  exact ⟨rfl, (((Gr.refl W).alloc _).alloc _).trans hg⟩
end Go.Proofs.YtmhlnbihppojmaaGreat
namespace Go.Proofs.YtmhlnbihppojmaaGreat
open Go.Shelf
def sortTolerance_ren : Go.Shelf.Ren := ⟨fun | 6 => 126 | 15 => 101 | 14 => 189 | 28 => 170 | 29 => 171 | 20 => 224 | 21 => 225 | 22 => 226 | 23 => 227 | 24 => 228 | 25 => 229 | 26 => 230 | 27 => 231 | 46 => 247 | 47 => 208 | 48 => 209 | 49 => 248 | 50 => 249 | 57 => 255 | n => n, fun | 22 => 42 | 24 => 106 | 25 => 153 | 3 => 3 | 39 => 123 | 0 => 0 | 53 => 181 | 55 => 183 | 4 => 4 | 46 => 174 | 45 => 173 | 50 => 108 | 5 => 5 | 9 => 9 | 66 => 199 | 70 => 203 | 76 => 224 | 77 => 225 | n => n, fun | n => n⟩
theorem sortTolerance : Go.Proofs.SlLaysF0.n6 Tryz.prog sortTolerance_ren := {
  mixed := by kernel_rfl
  f6 := ⟨Tryz.f126.name, by decide, Tryz.func126.trans (congrArg some (by kernel_rfl))⟩
  f14 := ⟨Tryz.f189.name, by decide, Tryz.func189.trans (congrArg some (by kernel_rfl))⟩
  f15 := Tryz.func101.trans (congrArg some (by kernel_rfl))
  f20 := ⟨Tryz.f224.name, by decide, Tryz.func224.trans (congrArg some (by kernel_rfl))⟩
  f21 := ⟨Tryz.f225.name, by decide, Tryz.func225.trans (congrArg some (by kernel_rfl))⟩
  f22 := ⟨Tryz.f226.name, by decide, Tryz.func226.trans (congrArg some (by kernel_rfl))⟩
  f23 := ⟨Tryz.f227.name, by decide, Tryz.func227.trans (congrArg some (by kernel_rfl))⟩
  f24 := ⟨Tryz.f228.name, by decide, Tryz.func228.trans (congrArg some (by kernel_rfl))⟩
  f25 := ⟨Tryz.f229.name, by decide, Tryz.func229.trans (congrArg some (by kernel_rfl))⟩
  f26 := ⟨Tryz.f230.name, by decide, Tryz.func230.trans (congrArg some (by kernel_rfl))⟩
  f27 := ⟨Tryz.f231.name, by decide, Tryz.func231.trans (congrArg some (by kernel_rfl))⟩
  f28 := Tryz.func170.trans (congrArg some (by kernel_rfl))
  f29 := Tryz.func171.trans (congrArg some (by kernel_rfl))
  f46 := ⟨Tryz.f247.name, by decide, Tryz.func247.trans (congrArg some (by kernel_rfl))⟩
  f47 := Tryz.func208.trans (congrArg some (by kernel_rfl))
  f48 := Tryz.func209.trans (congrArg some (by kernel_rfl))
  f49 := ⟨Tryz.f248.name, by decide, Tryz.func248.trans (congrArg some (by kernel_rfl))⟩
  f50 := ⟨Tryz.f249.name, by decide, Tryz.func249.trans (congrArg some (by kernel_rfl))⟩
  f57 := ⟨Tryz.f255.name, by decide, Tryz.func255.trans (congrArg some (by kernel_rfl))⟩
  t0 := Tryz.underlying0
  a0 := Tryz.isAgg0
  z0 := Tryz.sizeOf0
  v0 := Tryz.zeroValue0
  t3 := Tryz.underlying3
  a3 := Tryz.isAgg3
  z3 := Tryz.sizeOf3
  v3 := Tryz.zeroValue3
  t4 := Tryz.underlying4
  a4 := Tryz.isAgg4
  z4 := Tryz.sizeOf4
  v4 := Tryz.zeroValue4
  t5 := Tryz.underlying5
  a5 := Tryz.isAgg5
  z5 := Tryz.sizeOf5
  v5 := Tryz.zeroValue5
  t9 := Tryz.underlying9
  a9 := Tryz.isAgg9
  z9 := Tryz.sizeOf9
  v9 := Tryz.zeroValue9
  t22 := Tryz.underlying42
  a22 := Tryz.isAgg42
  z22 := Tryz.sizeOf42
  v22 := Tryz.zeroValue42
  t25 := Tryz.underlying153
  a25 := Tryz.isAgg153
  z25 := Tryz.sizeOf153
  v25 := Tryz.zeroValue153
  t39 := Tryz.underlying123
  a39 := Tryz.isAgg123
  z39 := Tryz.sizeOf123
  v39 := Tryz.zeroValue123
  t45 := Tryz.underlying173
  a45 := Tryz.isAgg173
  z45 := Tryz.sizeOf173
  v45 := Tryz.zeroValue173
  t46 := Tryz.underlying174
  a46 := Tryz.isAgg174
  z46 := Tryz.sizeOf174
  v46 := Tryz.zeroValue174
  t50 := Tryz.underlying108
  a50 := Tryz.isAgg108
  z50 := Tryz.sizeOf108
  v50 := Tryz.zeroValue108
  t53 := Tryz.underlying181
  a53 := Tryz.isAgg181
  z53 := Tryz.sizeOf181
  v53 := Tryz.zeroValue181
  t55 := Tryz.underlying183
  a55 := Tryz.isAgg183
  z55 := Tryz.sizeOf183
  v55 := Tryz.zeroValue183
  t66 := Tryz.underlying199
  a66 := Tryz.isAgg199
  z66 := Tryz.sizeOf199
  v66 := Tryz.zeroValue199
  t70 := Tryz.underlying203
  a70 := Tryz.isAgg203
  z70 := Tryz.sizeOf203
  v70 := Tryz.zeroValue203
  t76 := Tryz.underlying224
  a76 := Tryz.isAgg224
  z76 := Tryz.sizeOf224
  v76 := Tryz.zeroValue224
  t77 := Tryz.underlying225
  a77 := Tryz.isAgg225
  z77 := Tryz.sizeOf225
  v77 := Tryz.zeroValue225 }
def sortNeed_ren : Go.Shelf.Ren := ⟨fun | 6 => 42 | 15 => 101 | 14 => 102 | 28 => 170 | 29 => 171 | 20 => 172 | 21 => 173 | 22 => 174 | 23 => 175 | 24 => 176 | 25 => 177 | 26 => 178 | 27 => 179 | 46 => 213 | 47 => 208 | 48 => 209 | 49 => 214 | 50 => 215 | 57 => 244 | n => n, fun | 22 => 24 | 24 => 31 | 25 => 75 | 3 => 3 | 39 => 123 | 0 => 0 | 53 => 181 | 55 => 183 | 4 => 4 | 46 => 174 | 45 => 173 | 50 => 108 | 5 => 5 | 9 => 9 | 66 => 199 | 70 => 203 | 76 => 224 | 77 => 225 | n => n, fun | n => n⟩
theorem sortNeed : Go.Proofs.SlLaysF0.n6 Tryz.prog sortNeed_ren := {
  mixed := by kernel_rfl
  f6 := ⟨Tryz.f42.name, by decide, Tryz.func42.trans (congrArg some (by kernel_rfl))⟩
  f14 := ⟨Tryz.f102.name, by decide, Tryz.func102.trans (congrArg some (by kernel_rfl))⟩
  f15 := Tryz.func101.trans (congrArg some (by kernel_rfl))
  f20 := ⟨Tryz.f172.name, by decide, Tryz.func172.trans (congrArg some (by kernel_rfl))⟩
  f21 := ⟨Tryz.f173.name, by decide, Tryz.func173.trans (congrArg some (by kernel_rfl))⟩
  f22 := ⟨Tryz.f174.name, by decide, Tryz.func174.trans (congrArg some (by kernel_rfl))⟩
  f23 := ⟨Tryz.f175.name, by decide, Tryz.func175.trans (congrArg some (by kernel_rfl))⟩
  f24 := ⟨Tryz.f176.name, by decide, Tryz.func176.trans (congrArg some (by kernel_rfl))⟩
  f25 := ⟨Tryz.f177.name, by decide, Tryz.func177.trans (congrArg some (by kernel_rfl))⟩
  f26 := ⟨Tryz.f178.name, by decide, Tryz.func178.trans (congrArg some (by kernel_rfl))⟩
  f27 := ⟨Tryz.f179.name, by decide, Tryz.func179.trans (congrArg some (by kernel_rfl))⟩
  f28 := Tryz.func170.trans (congrArg some (by kernel_rfl))
  f29 := Tryz.func171.trans (congrArg some (by kernel_rfl))
  f46 := ⟨Tryz.f213.name, by decide, Tryz.func213.trans (congrArg some (by kernel_rfl))⟩
  f47 := Tryz.func208.trans (congrArg some (by kernel_rfl))
  f48 := Tryz.func209.trans (congrArg some (by kernel_rfl))
  f49 := ⟨Tryz.f214.name, by decide, Tryz.func214.trans (congrArg some (by kernel_rfl))⟩
  f50 := ⟨Tryz.f215.name, by decide, Tryz.func215.trans (congrArg some (by kernel_rfl))⟩
  f57 := ⟨Tryz.f244.name, by decide, Tryz.func244.trans (congrArg some (by kernel_rfl))⟩
  t0 := Tryz.underlying0
  a0 := Tryz.isAgg0
  z0 := Tryz.sizeOf0
  v0 := Tryz.zeroValue0
  t3 := Tryz.underlying3
  a3 := Tryz.isAgg3
  z3 := Tryz.sizeOf3
  v3 := Tryz.zeroValue3
  t4 := Tryz.underlying4
  a4 := Tryz.isAgg4
  z4 := Tryz.sizeOf4
  v4 := Tryz.zeroValue4
  t5 := Tryz.underlying5
  a5 := Tryz.isAgg5
  z5 := Tryz.sizeOf5
  v5 := Tryz.zeroValue5
  t9 := Tryz.underlying9
  a9 := Tryz.isAgg9
  z9 := Tryz.sizeOf9
  v9 := Tryz.zeroValue9
  t22 := Tryz.underlying24
  a22 := Tryz.isAgg24
  z22 := Tryz.sizeOf24
  v22 := Tryz.zeroValue24
  t25 := Tryz.underlying75
  a25 := Tryz.isAgg75
  z25 := Tryz.sizeOf75
  v25 := Tryz.zeroValue75
  t39 := Tryz.underlying123
  a39 := Tryz.isAgg123
  z39 := Tryz.sizeOf123
  v39 := Tryz.zeroValue123
  t45 := Tryz.underlying173
  a45 := Tryz.isAgg173
  z45 := Tryz.sizeOf173
  v45 := Tryz.zeroValue173
  t46 := Tryz.underlying174
  a46 := Tryz.isAgg174
  z46 := Tryz.sizeOf174
  v46 := Tryz.zeroValue174
  t50 := Tryz.underlying108
  a50 := Tryz.isAgg108
  z50 := Tryz.sizeOf108
  v50 := Tryz.zeroValue108
  t53 := Tryz.underlying181
  a53 := Tryz.isAgg181
  z53 := Tryz.sizeOf181
  v53 := Tryz.zeroValue181
  t55 := Tryz.underlying183
  a55 := Tryz.isAgg183
  z55 := Tryz.sizeOf183
  v55 := Tryz.zeroValue183
  t66 := Tryz.underlying199
  a66 := Tryz.isAgg199
  z66 := Tryz.sizeOf199
  v66 := Tryz.zeroValue199
  t70 := Tryz.underlying203
  a70 := Tryz.isAgg203
  z70 := Tryz.sizeOf203
  v70 := Tryz.zeroValue203
  t76 := Tryz.underlying224
  a76 := Tryz.isAgg224
  z76 := Tryz.sizeOf224
  v76 := Tryz.zeroValue224
  t77 := Tryz.underlying225
  a77 := Tryz.isAgg225
  z77 := Tryz.sizeOf225
  v77 := Tryz.zeroValue225 }
end Go.Proofs.YtmhlnbihppojmaaGreat
namespace Go.Proofs.YtmhlnbihppojmaaGreat
open Go.RowKit
theorem RowE.holds {D : Type} [Inhabited D] {enc : D → List Value} {sz ty base g n c : Nat} {w : World} {l : List D} (hk : ∀ d, (enc d).length = sz) (hs : 0 < sz) (h : RowE enc sz ty base w l (.slice (some ⟨g, 0, none⟩) n c)) (hp : 0 < l.length) : Go.Sort.HoldsK enc sz w g 0 l.toArray := by
  obtain ⟨g', cap, cur, hv, -, hg, -, -, -, hc⟩ := h.row hk hp
  simp only [Value.slice.injEq, Option.some.injEq, Addr.mk.injEq, and_true] at hv
  obtain ⟨rfl, -, -⟩ := hv
  intro j hj
  rw [Go.Sort.size_flatK] at hj
  have hjl : j < l.length * sz := by simpa using hj
  have hi : j / sz < l.length := by rwa [Nat.div_lt_iff_lt_mul hs]
  refine ⟨?_, frozen_row hg _⟩
  rw [cell_of_row w g _ cur _ _ hg, Nat.zero_add, Go.Sort.get_flatK _ _ _ _ hj]
  obtain ⟨d, hd⟩ := exists_at hi
  have h1 := hc (j / sz) d hd (j % sz) (Nat.mod_lt _ hs)
  rw [Nat.mul_comm, Nat.div_add_mod] at h1
  rw [h1]
  have h2 : l.toArray[j / sz]! = d := by
    rw [getElem!_pos _ _ (by simpa using hi)]
    simpa using (List.getElem?_eq_some_iff.1 hd).2
  rw [h2]
  have h3 : j % sz < (enc d).length := by rw [hk]; exact Nat.mod_lt _ hs
  rw [List.getElem?_eq_getElem h3]
  rw [getElem!_pos (enc d) (j % sz) h3]
  rfl
theorem sorted_heap {D : Type} [Inhabited D] {enc : D → List Value} {sz g m : Nat} {w : World} {cur : Array Value} {e : TypeId} {d' : Array D} {os : Array Obj} (hg : w.heap[g]? = some (.cells cur e (0, 0))) :
    (Go.Proofs.sortWorldK enc sz w g 0 m d' os).heap[g]? = some (.cells (Go.Sort.putCells id 0 (Go.Sort.flatK enc sz d') cur) e (0, 0)) := by
  have hl := row_lt hg
  show (w.heap.modify g (Go.Sort.onCells (Go.Sort.putCells id 0 (Go.Sort.flatK enc sz d'))) ++ os)[g]? = _
  rw [Array.getElem?_append_left (by simpa using hl), Array.getElem?_modify, if_pos rfl, hg]
  rfl
theorem sorted_aside {D : Type} [Inhabited D] {enc : D → List Value} {sz g m : Nat} {w : World} {d' : Array D} {os : Array Obj} : Aside (fun b => b = g) w (Go.Proofs.sortWorldK enc sz w g 0 m d' os) :=
  ⟨rfl, rfl, rfl, by show w.heap.size ≤ (w.heap.modify g _ ++ os).size; simp, fun b hb hn => by
    show (w.heap.modify g (Go.Sort.onCells (Go.Sort.putCells id 0 (Go.Sort.flatK enc sz d'))) ++ os)[b]? = _
    rw [Array.getElem?_append_left (by simpa using hb), Array.getElem?_modify, if_neg (fun e => hn e.symm)]⟩
theorem RowE.sorted {D : Type} [Inhabited D] {enc : D → List Value} {sz ty base g n c m : Nat} {w : World} {l : List D} {d' : Array D} {os : Array Obj} (hk : ∀ d, (enc d).length = sz) (hs : 0 < sz) (h : RowE enc sz ty base w l (.slice (some ⟨g, 0, none⟩) n c)) (hd : d'.size = l.length) :
    RowE enc sz ty base (Go.Proofs.sortWorldK enc sz w g 0 m d' os) d'.toList (.slice (some ⟨g, 0, none⟩) n c) := by
  obtain ⟨hl, h1⟩ := h
  rcases h1 with ⟨h0, -⟩ | ⟨g', cap, cur, hv, hb, hg, hn, hcm, hcs, ht⟩
  · cases h0
  · simp only [Value.slice.injEq, Option.some.injEq, Addr.mk.injEq, and_true] at hv
    obtain ⟨rfl, rfl, rfl⟩ := hv
    have hnl : d'.toList.length = l.length := by simpa using hd
    refine ⟨by rw [flatE_len hk], .inr ⟨g, c, _, by rw [hnl], hb, sorted_heap hg, by rw [hnl]; exact hn, hcm, by simp [Go.Sort.putCells, hcs], ?_⟩⟩
    have hsz : d'.size * sz ≤ cur.size := by rw [hcs, hd]; exact Nat.mul_le_mul_right _ hn
    apply List.ext_getElem?
    intro i
    rw [hnl, List.getElem?_take]
    by_cases hi : i < l.length * sz
    · rw [if_pos hi, Array.getElem?_toList]
      have hi2 : i / sz < d'.toList.length := by rw [hnl]; rwa [Nat.div_lt_iff_lt_mul hs]
      obtain ⟨d, hdd⟩ := exists_at hi2
      have h2 := flatE_at hk hdd (Nat.mod_lt i hs)
      have h3 : i / sz * sz + i % sz = i := by rw [Nat.mul_comm]; exact Nat.div_add_mod i sz
      rw [h3] at h2
      rw [h2]
      have hid : i < d'.size * sz := by rw [hd]; exact hi
      have hic : i < cur.size := by omega
      unfold Go.Sort.putCells
      rw [Array.getElem?_mapIdx, Array.getElem?_eq_getElem hic]
      simp only [Option.map_some, Nat.zero_le, true_and, Nat.zero_add, Nat.sub_zero, Go.Sort.size_flatK, hid, if_true, id]
      rw [Go.Sort.get_flatK _ _ _ _ hid]
      have h4 : d'[i / sz]! = d := by
        rw [getElem!_pos _ _ (by simpa using hi2)]
        simpa using (List.getElem?_eq_some_iff.1 hdd).2
      rw [h4]
      have h5 : i % sz < (enc d).length := by rw [hk]; exact Nat.mod_lt _ hs
      rw [List.getElem?_eq_getElem h5, getElem!_pos (enc d) (i % sz) h5]
    · rw [if_neg hi, List.getElem?_eq_none (by rw [flatE_len hk, hnl]; omega)]
theorem perm_of_in {D : Type} [Inhabited D] {l : List D} {d' : Array D} (h : Go.Sort.PermIn 0 l.toArray.size l.toArray d') : d'.size = l.length ∧ ∀ x, x ∈ d'.toList ↔ x ∈ l := by
  obtain ⟨h1, -, h3⟩ := h
  have h4 : d'.size = l.length := by simpa using h1
  refine ⟨h4, fun x => ?_⟩
  have e1 : d'.extract 0 l.toArray.size = d' := by rw [← h1]; exact Array.extract_size
  have e2 : l.toArray.extract 0 l.toArray.size = l.toArray := Array.extract_size
  rw [e1, e2] at h3
  exact h3.mem_iff
theorem pair_of_sorted {D : Type} [Inhabited D] {lt : D → D → Bool} {d' : Array D} (h : Go.Sort.SortedIn lt 0 d'.size d') : d'.toList.Pairwise (fun a b => lt b a = false) := by
  rw [List.pairwise_iff_getElem]
  intro i j hi hj hij
  have := h i j (Nat.zero_le _) hij (by simpa using hj)
  rw [getElem!_pos _ _ (by simpa using hj), getElem!_pos _ _ (by simpa using hi)] at this
  simpa using this
end Go.Proofs.YtmhlnbihppojmaaGreat
namespace Go.Proofs.YtmhlnbihppojmaaGreat
open Go.RowKit
def cmpK (x y : Label) : Int := cmpS x.key y.key
instance : Inhabited Label := ⟨⟨⟨#[]⟩, ⟨#[]⟩⟩⟩
theorem x_lab1 (x y : Label) (W : World) : Calls Tryz.prog 123 #[.agg #[.string x.key, .string x.value], .agg #[.string y.key, .string y.value]] W fun e w' => e = .returned (.int .i64 (cmpK x y)) ∧ Gr W w' := by
  go_enter Tryz.func123, Tryz.ntmps123
  go_wp2_with (go_at_call 104; refine (c_strings_Compare _ _ _).mono ?_; rintro e w9 ⟨rfl, rfl⟩)
  go_ret
  exact ⟨rfl, ((Gr.refl W).alloc _).alloc _⟩
theorem ltK : Go.Proofs.ltOf cmpK = fun x y => lessS x.key y.key := by
  funext x y
  show decide (cmpS x.key y.key < 0) = lessS x.key y.key
  rcases cmpS_cases x.key y.key with ⟨e, d⟩ | ⟨e, d, l⟩ | ⟨e, d, l⟩
  · rw [e, d, tot_S.irrefl]; rfl
  · rw [e, l]; rfl
  · rw [e, l]; rfl
theorem swo_key : Go.Sort.SWO (fun x y : Label => lessS x.key y.key) := ⟨fun x => (swo_of tot_S).irrefl x.key, fun x y z => (swo_of tot_S).trans x.key y.key z.key, fun x y z => (swo_of tot_S).ntrans x.key y.key z.key⟩
theorem perm_sub {a b : Nat} {l : List Label} {d' : Array Label} (h : Go.Sort.PermIn a b l.toArray d') : SubL d'.toList l := by
  obtain ⟨h1, h2, h3⟩ := h
  refine ⟨by simpa using h1, fun x hx => ?_⟩
  obtain ⟨i, hi⟩ := List.getElem?_of_mem hx
  have hil : i < d'.toList.length := (List.getElem?_eq_some_iff.1 hi).1
  have hid : i < d'.size := by simpa using hil
  have hill : i < l.length := by rw [h1] at hid; simpa using hid
  have hxi : d'[i]! = x := by
    rw [getElem!_pos d' i hid]
    have := (List.getElem?_eq_some_iff.1 hi).2
    simpa using this
  by_cases hab : i < a ∨ b ≤ i
  · have h4 := h2 i hab
    rw [hxi, getElem!_pos l.toArray i (by simpa using hill)] at h4
    rw [h4]
    simp
  · have hm : x ∈ (d'.extract a b).toList := by
      rw [Array.mem_toList_iff, Array.mem_extract_iff_getElem]
      refine ⟨i - a, by omega, ?_⟩
      have e : a + (i - a) = i := by omega
      rw [← hxi, getElem!_pos d' i hid]
      congr 1
    have h4 := h3.mem_iff.1 hm
    rw [Array.mem_toList_iff, Array.mem_extract_iff_getElem] at h4
    obtain ⟨k, hk, rfl⟩ := h4
    simp
theorem c_insLabel (l : List Label) (N g cap base a b : Nat) (w : World) (hN : l.length = N) (h : RowE encL 2 98 base w l (.slice (some ⟨g, 0, none⟩) N cap)) (hl : N ≤ 1048576) (hp : 0 < N) (hab : a ≤ b) (hb : b ≤ N) :
    Calls Tryz.prog 222 #[.slice (some ⟨g, 0, none⟩) N cap, .int .i64 a, .int .i64 b, .func (.func 123) #[] #[]] w fun e w' => ∃ l' : List Label, e = .returned (.tuple #[]) ∧ SubL l' l ∧ (a = 0 → b = N → l'.Perm l ∧ l'.Pairwise (fun x y => lessS y.key x.key = false)) ∧ RowE encL 2 98 base w' l' (.slice (some ⟨g, 0, none⟩) N cap) ∧ Aside (fun q => q = g) w w' := by
  subst hN
  obtain ⟨g', cap', cur, hv, -, hg, -, -, -, -⟩ := h.row encL_len hp
  simp only [Value.slice.injEq, Option.some.injEq, Addr.mk.injEq, and_true] at hv
  obtain ⟨rfl, -, rfl⟩ := hv
  have hH := h.holds encL_len (by decide) hp
  have eg : ∀ args w, (callFunc 123 args).run Tryz.prog w = .ok (.enter 123 args) w := enters_of Tryz.func123 (by kernel_rfl) rfl
  have hcon := AnyQ.insertionSortCmpFunc insLabel 2 Tryz.isAgg98 Tryz.sizeOf98 encL encL_len encL_one cmpK 123 #[] g 0 cap a b l.toArray w eg (fun m os dk _ x y => (x_lab1 x y _).mono fun e w' h => h) hH (row_lt hg) hab (by simpa using hb) (by rw [List.size_toArray]; omega)
  change Calls Tryz.prog 222 _ _ _ at hcon
  rw [List.size_toArray] at hcon
  refine hcon.mono ?_
  rintro e w' ⟨rfl, m, os, rfl⟩
  have hSWO : Go.Sort.SWO (Go.Proofs.ltOf cmpK) := by rw [ltK]; exact swo_key
  obtain ⟨hP, hS⟩ := Go.Sort.insertionSort_holds (lt := Go.Proofs.ltOf cmpK) hSWO l.toArray a b hab (by simpa using hb)
  obtain ⟨d', hd'⟩ : ∃ d', d' = Go.Sort.insertionSort (Go.Proofs.ltOf cmpK) l.toArray a b := ⟨_, rfl⟩
  rw [← hd'] at hP hS ⊢
  have hds : d'.size = l.length := by rw [hP.1, List.size_toArray]
  refine ⟨d'.toList, rfl, perm_sub hP, fun e1 e2 => ?_, h.sorted encL_len (by decide) hds, sorted_aside⟩
  subst e1 e2
  obtain ⟨q1, -, q3⟩ := hP
  refine ⟨?_, ?_⟩
  · have e1 : d'.extract 0 l.length = d' := by rw [← hds]; exact Array.extract_size
    have e2 : l.toArray.extract 0 l.length = l.toArray := by rw [show l.length = l.toArray.size by simp]; exact Array.extract_size
    rw [e1, e2] at q3
    exact q3
  · rw [ltK] at hS
    exact pair_of_sorted (lt := fun x y : Label => lessS x.key y.key) (by rw [hds]; exact hS)
end Go.Proofs.YtmhlnbihppojmaaGreat
