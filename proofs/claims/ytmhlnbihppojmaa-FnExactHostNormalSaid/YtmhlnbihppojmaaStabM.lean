/- The library's symMerge of labels: it ends and keeps the members. No conditions. -/
import Derived.Test.YtmhlnbihppojmaaStable
import Derived.Test.YtmhlnbihppojmaaDet
import Derived.Deep.Cut
import Derived.Deep.CutRange
import Derived.Deep.CutBlock
namespace Go.Proofs.Ytmhlnbihppojmaa
open Go.RowKit

theorem c_lab1 (x y : Label) (w : World) : Calls Try.prog 134 #[.agg #[.string x.key, .string x.value], .agg #[.string y.key, .string y.value]] w fun e w' => e = .returned (.int .i64 (cmpS x.key y.key)) ∧ Below w.heap.size w w' := by
  go_enter Try.func134, Try.ntmps134
  go_wp2_with (first | (go_at_call 100; refine (c_strings_Compare _ _ _).mono ?_; rintro e w1 ⟨rfl, rfl⟩))
  go_ret
  exact ⟨rfl, (by repeat (first | (with_reducible exact Below.refl _ _) | (with_reducible refine ext_alloc ?_) | ((with_reducible refine ext_setCell ?_ ?_); focus (simp; (try omega))) | (with_reducible refine below_drewN ?_ _) | (with_reducible refine Below.drew ?_) | (with_reducible (apply ext_step; assumption))))⟩
theorem two_cells {base g n cap k : Nat} {wr : World} {l : List Label} {x : Label} (h : RowE encL 2 142 base wr l (.slice (some ⟨g, 0, none⟩) n cap)) (hx : l[k]? = some x) : wr.cell? ⟨g, k * 2, none⟩ = some (.string x.key) ∧ wr.cell? ⟨g, k * 2 + 1, none⟩ = some (.string x.value) := by
  obtain ⟨-, -, -, -, cur, hg, -, hrow⟩ := h.at encL_len
  exact ⟨by rw [cell_of_row _ g _ cur _ _ hg]; exact hrow _ x hx 0 (by decide), by rw [cell_of_row _ g _ cur _ _ hg]; exact hrow _ x hx 1 (by decide)⟩
theorem row_frz {base g n cap : Nat} {wr : World} {l : List Label} (h : RowE encL 2 142 base wr l (.slice (some ⟨g, 0, none⟩) n cap)) : (∀ o, wr.frozen? ⟨g, o, none⟩ = false) ∧ g < wr.heap.size := by
  obtain ⟨-, -, -, -, cur, hg, -, -⟩ := h.at encL_len
  exact ⟨fun o => frozen_row hg o, row_lt hg⟩
def T_sym (n : Nat) : Prop := ∀ (l : List Label) (N g cap base a m b : Nat) (w : World) (_ : b - a ≤ n) (_ : l.length = N) (_ : RowE encL 2 142 base w l (.slice (some ⟨g, 0, none⟩) N cap)) (_ : N ≤ 1048576) (_ : a < m) (_ : m < b) (_ : b ≤ N),
    Calls Try.prog 207 #[.slice (some ⟨g, 0, none⟩) N cap, .int .i64 a, .int .i64 m, .int .i64 b, .func (.func 134) #[] #[]] w fun e w' => ∃ l' : List Label, e = .returned (.tuple #[]) ∧ SubL l' l ∧ RowE encL 2 142 base w' l' (.slice (some ⟨g, 0, none⟩) N cap) ∧ Aside (fun q => q = g) w w'
set_option maxHeartbeats 4000000 in
set_option maxRecDepth 10000 in
theorem of_sym (n : Nat) (ih : ∀ k, k < n → T_sym k) : T_sym n := by
  intro l N g cap base a m b w hn hN h hl ham hmb hb
  have H := Lib.hid h
  have HN := Lib.hid hN
  have Hih := Lib.hid ih
  clear h hN ih
  go_enter Try.func207, Try.ntmps207
  by_cases h1 : (m : Int) - a = 1
  · go_wp2_with fail
    go_loopw [10, 11] (fun s10 s11 wr => ∃ (i j : Nat), m ≤ i ∧ i ≤ j ∧ j ≤ b ∧ s10 = .int .i64 i ∧ s11 = .int .i64 j ∧ Below w.heap.size w wr) (fun s10 s11 _ => (intOf s11).toNat - (intOf s10).toNat)
    case atStart => exact ⟨m, b, Nat.le_refl _, by omega, Nat.le_refl _, rfl, rfl, Below.refl _ _⟩
    case round =>
      obtain ⟨i, j, hmi, hij, hjb, rfl, rfl, hbr⟩ := hrel
      have HRr := Lib.hid (H.out.below hbr)
      obtain ⟨hfz, hgl⟩ := row_frz HRr.out
      by_cases hlt : i < j
      · have hlt2 : (i : Int) < j := by omega
        obtain ⟨h, hh⟩ : ∃ h : Nat, h = (i + j) / 2 := ⟨_, rfl⟩
        have hh1 : i ≤ h := by omega
        have hh2 : h < j := by omega
        have HH := Lib.hid (show ((i : Int) + j) / 2 = (h : Int) by omega)
        clear hh
        obtain ⟨x, hx⟩ := exists_at (l := l) (k := h) (by rw [HN.out]; omega)
        obtain ⟨y, hy⟩ := exists_at (l := l) (k := a) (by rw [HN.out]; omega)
        obtain ⟨x0, x1⟩ := two_cells HRr.out hx
        obtain ⟨y0, y1⟩ := two_cells HRr.out hy
        clear hx hy
        have e0 : (h : Int) < N := by omega
        have e1 : (a : Int) < N := by omega
        have e2 : (0 : Int) ≤ h := by omega
        have e3 : (0 : Int) ≤ a := by omega
        go_wp2_with fail
        rw [HH.out]
        obtain ⟨cc, hcc⟩ : ∃ cc, cc = cmpS x.key y.key := ⟨_, rfl⟩
        have HC := Lib.hid hcc
        clear hcc
        by_cases hc : cc < 0
        · skip
          refine wp_region_det 11 (by kernel_rfl) (by kernel_rfl) (by decide) ?_
          apply Exists.intro
          refine And.intro ?_ ?_
          · (intro W hW; (try simp only [Act.put, List.setIfInBounds_toArray, List.set_cons_zero, List.set_cons_succ]); first | (go_wp2_with fail; exact ⟨rfl, rfl, Below.refl _ _⟩))
          apply Exists.intro
          refine And.intro ?_ ?_
          · (intro W hW; (try simp only [Act.put, List.setIfInBounds_toArray, List.set_cons_zero, List.set_cons_succ]); first | (go_wp2_with fail; exact ⟨rfl, rfl, Below.refl _ _⟩))
          apply Exists.intro
          refine And.intro ?_ ?_
          · (intro W hW; (try simp only [Act.put, List.setIfInBounds_toArray, List.set_cons_zero, List.set_cons_succ]); first | (go_wp2_with fail; exact ⟨rfl, rfl, Below.refl _ _⟩))
          apply Exists.intro
          refine And.intro ?_ ?_
          · (intro W hW; (try simp only [Act.put, List.setIfInBounds_toArray, List.set_cons_zero, List.set_cons_succ]); first | (go_wp2_with fail; exact ⟨rfl, rfl, Below.refl _ _⟩))
          apply Exists.intro
          refine And.intro ?_ ?_
          · (intro W hW; (try simp only [Act.put, List.setIfInBounds_toArray, List.set_cons_zero, List.set_cons_succ]); first | (obtain ⟨hcW, hfW⟩ := bcell hW; have hsW := hW.size; (try simp at hsW); (try have hsW0 := lt_of_succ_le hsW); (try (have hsW1 := lt_pred hsW; (try (have hsW2 := lt_pred hsW1)))); go_wp2_with fail; exact ⟨rfl, rfl, Below.refl _ _⟩))
          apply Exists.intro
          refine And.intro ?_ ?_
          · (intro W hW; (try simp only [Act.put, List.setIfInBounds_toArray, List.set_cons_zero, List.set_cons_succ]); first | (go_wp2_with fail; exact ⟨rfl, rfl, Below.refl _ _⟩))
          apply Exists.intro
          refine And.intro ?_ ?_
          · (intro W hW; (try simp only [Act.put, List.setIfInBounds_toArray, List.set_cons_zero, List.set_cons_succ]); first | (go_wp2_with fail; exact ⟨rfl, rfl, Below.refl _ _⟩))
          apply Exists.intro
          refine And.intro ?_ ?_
          · (intro W hW; (try simp only [Act.put, List.setIfInBounds_toArray, List.set_cons_zero, List.set_cons_succ]); first | (go_wp2_with fail; exact ⟨rfl, rfl, Below.refl _ _⟩))
          apply Exists.intro
          refine And.intro ?_ ?_
          · (intro W hW; (try simp only [Act.put, List.setIfInBounds_toArray, List.set_cons_zero, List.set_cons_succ]); first | (obtain ⟨hcW, hfW⟩ := bcell hW; have hsW := hW.size; (try simp at hsW); (try have hsW0 := lt_of_succ_le hsW); (try (have hsW1 := lt_pred hsW; (try (have hsW2 := lt_pred hsW1)))); go_wp2_with fail; exact ⟨rfl, rfl, Below.refl _ _⟩))
          apply Exists.intro
          refine And.intro ?_ ?_
          · (intro W hW; (try simp only [Act.put, List.setIfInBounds_toArray, List.set_cons_zero, List.set_cons_succ]); first | (obtain ⟨hcW, hfW⟩ := bcell hW; have hsW := hW.size; (try simp at hsW); (try have hsW0 := lt_of_succ_le hsW); (try (have hsW1 := lt_pred hsW; (try (have hsW2 := lt_pred hsW1)))); go_wp2_with (first | (go_at_call 134; refine (c_lab1 x y _).mono ?_; rintro e w9 ⟨rfl, hb9⟩; rw [← HC.out])); exact ⟨rfl, rfl, (by repeat (first | (with_reducible exact Below.refl _ _) | (with_reducible refine ext_alloc ?_) | ((with_reducible refine ext_setCell ?_ ?_); focus (simp; (try omega))) | (with_reducible refine below_drewN ?_ _) | (with_reducible refine Below.drew ?_) | (with_reducible (apply ext_step; assumption))))⟩))
          apply Exists.intro
          refine And.intro ?_ ?_
          · (intro W hW; (try simp only [Act.put, List.setIfInBounds_toArray, List.set_cons_zero, List.set_cons_succ]); first | (go_wp2_with fail; exact ⟨rfl, rfl, Below.refl _ _⟩))
          intro w1 hb
          (first | (have hcu2 := Cum.join hcu hb; (try clear hcu); (try clear hc); (try clear hfz); (try clear hsz); (try clear hs0); (try clear hs1); (try clear hs2); (try clear hs3); (try clear hs4); ) | have hcu2 := Cum.mk hb); have hcu := hcu2; clear hcu2; obtain ⟨hc, hfz⟩ := bcell hcu.h; have hsz := hcu.h.size; (try simp at hsz); (try have hs0 := lt_of_succ_le hsz); (try (have hs1 := lt_pred hsz; (try (have hs2 := lt_pred hs1; (try (have hs3 := lt_pred hs2; (try have hs4 := lt_pred hs3)))))))
          (try simp only [Act.put, List.setIfInBounds_toArray, List.set_cons_zero, List.set_cons_succ])
          (try simp only [List.drop_succ_cons, List.drop_nil])
          have Bq := Lib.hid (ext_trans hbr hb)
          go_wp2_with fail
          go_roundw
          case rel => exact ⟨h + 1, j, by omega, by omega, hjb, by go_num, rfl, Bq.out⟩
          case measure => simp [intOf]; omega
        · have hcb : 0 ≤ cc := by omega
          clear hc
          refine wp_region_det 11 (by kernel_rfl) (by kernel_rfl) (by decide) ?_
          apply Exists.intro
          refine And.intro ?_ ?_
          · (intro W hW; (try simp only [Act.put, List.setIfInBounds_toArray, List.set_cons_zero, List.set_cons_succ]); first | (go_wp2_with fail; exact ⟨rfl, rfl, Below.refl _ _⟩))
          apply Exists.intro
          refine And.intro ?_ ?_
          · (intro W hW; (try simp only [Act.put, List.setIfInBounds_toArray, List.set_cons_zero, List.set_cons_succ]); first | (go_wp2_with fail; exact ⟨rfl, rfl, Below.refl _ _⟩))
          apply Exists.intro
          refine And.intro ?_ ?_
          · (intro W hW; (try simp only [Act.put, List.setIfInBounds_toArray, List.set_cons_zero, List.set_cons_succ]); first | (go_wp2_with fail; exact ⟨rfl, rfl, Below.refl _ _⟩))
          apply Exists.intro
          refine And.intro ?_ ?_
          · (intro W hW; (try simp only [Act.put, List.setIfInBounds_toArray, List.set_cons_zero, List.set_cons_succ]); first | (go_wp2_with fail; exact ⟨rfl, rfl, Below.refl _ _⟩))
          apply Exists.intro
          refine And.intro ?_ ?_
          · (intro W hW; (try simp only [Act.put, List.setIfInBounds_toArray, List.set_cons_zero, List.set_cons_succ]); first | (obtain ⟨hcW, hfW⟩ := bcell hW; have hsW := hW.size; (try simp at hsW); (try have hsW0 := lt_of_succ_le hsW); (try (have hsW1 := lt_pred hsW; (try (have hsW2 := lt_pred hsW1)))); go_wp2_with fail; exact ⟨rfl, rfl, Below.refl _ _⟩))
          apply Exists.intro
          refine And.intro ?_ ?_
          · (intro W hW; (try simp only [Act.put, List.setIfInBounds_toArray, List.set_cons_zero, List.set_cons_succ]); first | (go_wp2_with fail; exact ⟨rfl, rfl, Below.refl _ _⟩))
          apply Exists.intro
          refine And.intro ?_ ?_
          · (intro W hW; (try simp only [Act.put, List.setIfInBounds_toArray, List.set_cons_zero, List.set_cons_succ]); first | (go_wp2_with fail; exact ⟨rfl, rfl, Below.refl _ _⟩))
          apply Exists.intro
          refine And.intro ?_ ?_
          · (intro W hW; (try simp only [Act.put, List.setIfInBounds_toArray, List.set_cons_zero, List.set_cons_succ]); first | (go_wp2_with fail; exact ⟨rfl, rfl, Below.refl _ _⟩))
          apply Exists.intro
          refine And.intro ?_ ?_
          · (intro W hW; (try simp only [Act.put, List.setIfInBounds_toArray, List.set_cons_zero, List.set_cons_succ]); first | (obtain ⟨hcW, hfW⟩ := bcell hW; have hsW := hW.size; (try simp at hsW); (try have hsW0 := lt_of_succ_le hsW); (try (have hsW1 := lt_pred hsW; (try (have hsW2 := lt_pred hsW1)))); go_wp2_with fail; exact ⟨rfl, rfl, Below.refl _ _⟩))
          apply Exists.intro
          refine And.intro ?_ ?_
          · (intro W hW; (try simp only [Act.put, List.setIfInBounds_toArray, List.set_cons_zero, List.set_cons_succ]); first | (obtain ⟨hcW, hfW⟩ := bcell hW; have hsW := hW.size; (try simp at hsW); (try have hsW0 := lt_of_succ_le hsW); (try (have hsW1 := lt_pred hsW; (try (have hsW2 := lt_pred hsW1)))); go_wp2_with (first | (go_at_call 134; refine (c_lab1 x y _).mono ?_; rintro e w9 ⟨rfl, hb9⟩; rw [← HC.out])); exact ⟨rfl, rfl, (by repeat (first | (with_reducible exact Below.refl _ _) | (with_reducible refine ext_alloc ?_) | ((with_reducible refine ext_setCell ?_ ?_); focus (simp; (try omega))) | (with_reducible refine below_drewN ?_ _) | (with_reducible refine Below.drew ?_) | (with_reducible (apply ext_step; assumption))))⟩))
          apply Exists.intro
          refine And.intro ?_ ?_
          · (intro W hW; (try simp only [Act.put, List.setIfInBounds_toArray, List.set_cons_zero, List.set_cons_succ]); first | (go_wp2_with fail; exact ⟨rfl, rfl, Below.refl _ _⟩))
          intro w1 hb
          (first | (have hcu2 := Cum.join hcu hb; (try clear hcu); (try clear hc); (try clear hfz); (try clear hsz); (try clear hs0); (try clear hs1); (try clear hs2); (try clear hs3); (try clear hs4); ) | have hcu2 := Cum.mk hb); have hcu := hcu2; clear hcu2; obtain ⟨hc, hfz⟩ := bcell hcu.h; have hsz := hcu.h.size; (try simp at hsz); (try have hs0 := lt_of_succ_le hsz); (try (have hs1 := lt_pred hsz; (try (have hs2 := lt_pred hs1; (try (have hs3 := lt_pred hs2; (try have hs4 := lt_pred hs3)))))))
          (try simp only [Act.put, List.setIfInBounds_toArray, List.set_cons_zero, List.set_cons_succ])
          (try simp only [List.drop_succ_cons, List.drop_nil])
          have Bq := Lib.hid (ext_trans hbr hb)
          go_wp2_with fail
          go_roundw
          case rel => exact ⟨i, h, hmi, by omega, by omega, rfl, rfl, Bq.out⟩
          case measure => simp [intOf]; omega
      · obtain rfl : i = j := by omega
        have HA := Lib.hid (show Aside (fun q => q = g) w wr from Aside.of_below hbr)
        go_wp2_with fail
        go_loopw [13] (fun s13 wr => ∃ (k : Nat) (l' : List Label), a ≤ k ∧ k ≤ i - 1 ∧ s13 = .int .i64 k ∧ SubL l' l ∧ RowE encL 2 142 base wr l' (.slice (some ⟨g, 0, none⟩) N cap) ∧ Aside (fun q => q = g) w wr) (fun s13 _ => i - (intOf s13).toNat)
        case atStart => exact ⟨a, l, Nat.le_refl _, by omega, rfl, SubL.refl _, HRr.out, HA.out⟩
        case round =>
          obtain ⟨k, l', hak, hki, rfl, hS, hR, hA⟩ := hrel
          have HS := Lib.hid hS
          have HR := Lib.hid hR
          have HA2 := Lib.hid hA
          have hll : l'.length = N := by rw [hS.1]; exact HN.out
          clear hS hA
          by_cases hlt : k < i - 1
          · have hlt2 : (k : Int) < i - 1 := by omega
            obtain ⟨x, hx⟩ := exists_at (l := l') (k := k) (by omega)
            obtain ⟨y, hy⟩ := exists_at (l := l') (k := k + 1) (by omega)
            obtain ⟨x0, x1⟩ := two_cells HR.out hx
            obtain ⟨y0, y1⟩ := two_cells HR.out hy
            obtain ⟨hfz2, hgl2⟩ := row_frz HR.out
            have e0 : (0 : Int) ≤ (k : Int) := by omega
            have e1 : (k : Int) < (N : Int) := by omega
            have e2 : (0 : Int) ≤ (k : Int) + 1 := by omega
            have e3 : (k : Int) + 1 < (N : Int) := by omega
            have n0 : ¬ (k) * 2 = (k + 1) * 2 := by omega
            have n1 : ¬ (k) * 2 + 1 = (k + 1) * 2 := by omega
            have n2 : ¬ (k) * 2 = (k + 1) * 2 + 1 := by omega
            have n3 : ¬ (k) * 2 + 1 = (k + 1) * 2 + 1 := by omega
            have HR2 := Lib.hid ((hR.store (k := k) encL_len (by decide) (by omega) (x := y)).store (k := k + 1) encL_len (by decide) (by rw [List.length_set]; omega) (x := x))
            have HS2 := Lib.hid (SubL.trans (SubL.swap (i := k) (j := k + 1) (List.mem_of_getElem? hx) (List.mem_of_getElem? hy)) HS.out)
            have mixed : Try.prog.follows Departure.mixedOrders = true := by kernel_rfl
            clear hx hy hR
            go_wp2_with fail
            go_big_region_o
            all_goals go_wp2
            go_roundw
            case rel => exact ⟨k + 1, _, by omega, by omega, by go_num, HS2.out, HR2.out.carry (fun _ _ => rfl), HA2.out.trans (aside_drew (Aside.setCell (Aside.setCell (Aside.setCell (Aside.setCell (Aside.refl _ _) rfl) rfl) rfl) rfl))⟩
            case measure => simp [intOf]; omega
          · have hlt2 : ¬ (k : Int) < i - 1 := by omega
            go_wp2_with fail
            (try simp only [Exit.inBlock, Exit.then])
            exact bodyPost_ret (results_none rfl _ _ _) rfl ⟨rfl, l', HS.out, HR.out, HA2.out⟩
  · have h1b : ((m : Int) - a == 1) = false := beq_eq_false_iff_ne.2 h1
    clear h1
    by_cases h2 : (b : Int) - m = 1
    · have h2b : ((b : Int) - m == 1) = true := beq_iff_eq.2 h2
      clear h2
      go_wp2_with fail
      go_loopw [14, 15] (fun s14 s15 wr => ∃ (i j : Nat), a ≤ i ∧ i ≤ j ∧ j ≤ m ∧ s14 = .int .i64 i ∧ s15 = .int .i64 j ∧ Below w.heap.size w wr) (fun s14 s15 _ => (intOf s15).toNat - (intOf s14).toNat)
      case atStart => exact ⟨a, m, Nat.le_refl _, by omega, Nat.le_refl _, rfl, rfl, Below.refl _ _⟩
      case round =>
        obtain ⟨i, j, hmi, hij, hjb, rfl, rfl, hbr⟩ := hrel
        have HRr := Lib.hid (H.out.below hbr)
        obtain ⟨hfz, hgl⟩ := row_frz HRr.out
        by_cases hlt : i < j
        · have hlt2 : (i : Int) < j := by omega
          obtain ⟨h, hh⟩ : ∃ h : Nat, h = (i + j) / 2 := ⟨_, rfl⟩
          have hh1 : i ≤ h := by omega
          have hh2 : h < j := by omega
          have HH := Lib.hid (show ((i : Int) + j) / 2 = (h : Int) by omega)
          clear hh
          obtain ⟨x, hx⟩ := exists_at (l := l) (k := m) (by rw [HN.out]; omega)
          obtain ⟨y, hy⟩ := exists_at (l := l) (k := h) (by rw [HN.out]; omega)
          obtain ⟨x0, x1⟩ := two_cells HRr.out hx
          obtain ⟨y0, y1⟩ := two_cells HRr.out hy
          clear hx hy
          have e0 : (h : Int) < N := by omega
          have e1 : (m : Int) < N := by omega
          have e2 : (0 : Int) ≤ h := by omega
          have e3 : (0 : Int) ≤ m := by omega
          go_wp2_with fail
          rw [HH.out]
          obtain ⟨cc, hcc⟩ : ∃ cc, cc = cmpS x.key y.key := ⟨_, rfl⟩
          have HC := Lib.hid hcc
          clear hcc
          by_cases hc : cc < 0
          · skip
            refine wp_region_det 12 (by kernel_rfl) (by kernel_rfl) (by decide) ?_
            apply Exists.intro
            refine And.intro ?_ ?_
            · (intro W hW; (try simp only [Act.put, List.setIfInBounds_toArray, List.set_cons_zero, List.set_cons_succ]); first | (go_wp2_with fail; exact ⟨rfl, rfl, Below.refl _ _⟩))
            apply Exists.intro
            refine And.intro ?_ ?_
            · (intro W hW; (try simp only [Act.put, List.setIfInBounds_toArray, List.set_cons_zero, List.set_cons_succ]); first | (go_wp2_with fail; exact ⟨rfl, rfl, Below.refl _ _⟩))
            apply Exists.intro
            refine And.intro ?_ ?_
            · (intro W hW; (try simp only [Act.put, List.setIfInBounds_toArray, List.set_cons_zero, List.set_cons_succ]); first | (go_wp2_with fail; exact ⟨rfl, rfl, Below.refl _ _⟩))
            apply Exists.intro
            refine And.intro ?_ ?_
            · (intro W hW; (try simp only [Act.put, List.setIfInBounds_toArray, List.set_cons_zero, List.set_cons_succ]); first | (go_wp2_with fail; exact ⟨rfl, rfl, Below.refl _ _⟩))
            apply Exists.intro
            refine And.intro ?_ ?_
            · (intro W hW; (try simp only [Act.put, List.setIfInBounds_toArray, List.set_cons_zero, List.set_cons_succ]); first | (obtain ⟨hcW, hfW⟩ := bcell hW; have hsW := hW.size; (try simp at hsW); (try have hsW0 := lt_of_succ_le hsW); (try (have hsW1 := lt_pred hsW; (try (have hsW2 := lt_pred hsW1)))); go_wp2_with fail; exact ⟨rfl, rfl, Below.refl _ _⟩))
            apply Exists.intro
            refine And.intro ?_ ?_
            · (intro W hW; (try simp only [Act.put, List.setIfInBounds_toArray, List.set_cons_zero, List.set_cons_succ]); first | (go_wp2_with fail; exact ⟨rfl, rfl, Below.refl _ _⟩))
            apply Exists.intro
            refine And.intro ?_ ?_
            · (intro W hW; (try simp only [Act.put, List.setIfInBounds_toArray, List.set_cons_zero, List.set_cons_succ]); first | (go_wp2_with fail; exact ⟨rfl, rfl, Below.refl _ _⟩))
            apply Exists.intro
            refine And.intro ?_ ?_
            · (intro W hW; (try simp only [Act.put, List.setIfInBounds_toArray, List.set_cons_zero, List.set_cons_succ]); first | (go_wp2_with fail; exact ⟨rfl, rfl, Below.refl _ _⟩))
            apply Exists.intro
            refine And.intro ?_ ?_
            · (intro W hW; (try simp only [Act.put, List.setIfInBounds_toArray, List.set_cons_zero, List.set_cons_succ]); first | (obtain ⟨hcW, hfW⟩ := bcell hW; have hsW := hW.size; (try simp at hsW); (try have hsW0 := lt_of_succ_le hsW); (try (have hsW1 := lt_pred hsW; (try (have hsW2 := lt_pred hsW1)))); go_wp2_with fail; exact ⟨rfl, rfl, Below.refl _ _⟩))
            apply Exists.intro
            refine And.intro ?_ ?_
            · (intro W hW; (try simp only [Act.put, List.setIfInBounds_toArray, List.set_cons_zero, List.set_cons_succ]); first | (obtain ⟨hcW, hfW⟩ := bcell hW; have hsW := hW.size; (try simp at hsW); (try have hsW0 := lt_of_succ_le hsW); (try (have hsW1 := lt_pred hsW; (try (have hsW2 := lt_pred hsW1)))); go_wp2_with (first | (go_at_call 134; refine (c_lab1 x y _).mono ?_; rintro e w9 ⟨rfl, hb9⟩; rw [← HC.out])); exact ⟨rfl, rfl, (by repeat (first | (with_reducible exact Below.refl _ _) | (with_reducible refine ext_alloc ?_) | ((with_reducible refine ext_setCell ?_ ?_); focus (simp; (try omega))) | (with_reducible refine below_drewN ?_ _) | (with_reducible refine Below.drew ?_) | (with_reducible (apply ext_step; assumption))))⟩))
            apply Exists.intro
            refine And.intro ?_ ?_
            · (intro W hW; (try simp only [Act.put, List.setIfInBounds_toArray, List.set_cons_zero, List.set_cons_succ]); first | (go_wp2_with fail; exact ⟨rfl, rfl, Below.refl _ _⟩))
            apply Exists.intro
            refine And.intro ?_ ?_
            · (intro W hW; (try simp only [Act.put, List.setIfInBounds_toArray, List.set_cons_zero, List.set_cons_succ]); first | (go_wp2_with fail; exact ⟨rfl, rfl, Below.refl _ _⟩))
            intro w1 hb
            (first | (have hcu2 := Cum.join hcu hb; (try clear hcu); (try clear hc); (try clear hfz); (try clear hsz); (try clear hs0); (try clear hs1); (try clear hs2); (try clear hs3); (try clear hs4); ) | have hcu2 := Cum.mk hb); have hcu := hcu2; clear hcu2; obtain ⟨hc, hfz⟩ := bcell hcu.h; have hsz := hcu.h.size; (try simp at hsz); (try have hs0 := lt_of_succ_le hsz); (try (have hs1 := lt_pred hsz; (try (have hs2 := lt_pred hs1; (try (have hs3 := lt_pred hs2; (try have hs4 := lt_pred hs3)))))))
            (try simp only [Act.put, List.setIfInBounds_toArray, List.set_cons_zero, List.set_cons_succ])
            (try simp only [List.drop_succ_cons, List.drop_nil])
            have Bq := Lib.hid (ext_trans hbr hb)
            go_wp2_with fail
            go_roundw
            case rel => exact ⟨i, h, hmi, by omega, by omega, rfl, rfl, Bq.out⟩
            case measure => simp [intOf]; omega
          · have hcb : 0 ≤ cc := by omega
            clear hc
            refine wp_region_det 12 (by kernel_rfl) (by kernel_rfl) (by decide) ?_
            apply Exists.intro
            refine And.intro ?_ ?_
            · (intro W hW; (try simp only [Act.put, List.setIfInBounds_toArray, List.set_cons_zero, List.set_cons_succ]); first | (go_wp2_with fail; exact ⟨rfl, rfl, Below.refl _ _⟩))
            apply Exists.intro
            refine And.intro ?_ ?_
            · (intro W hW; (try simp only [Act.put, List.setIfInBounds_toArray, List.set_cons_zero, List.set_cons_succ]); first | (go_wp2_with fail; exact ⟨rfl, rfl, Below.refl _ _⟩))
            apply Exists.intro
            refine And.intro ?_ ?_
            · (intro W hW; (try simp only [Act.put, List.setIfInBounds_toArray, List.set_cons_zero, List.set_cons_succ]); first | (go_wp2_with fail; exact ⟨rfl, rfl, Below.refl _ _⟩))
            apply Exists.intro
            refine And.intro ?_ ?_
            · (intro W hW; (try simp only [Act.put, List.setIfInBounds_toArray, List.set_cons_zero, List.set_cons_succ]); first | (go_wp2_with fail; exact ⟨rfl, rfl, Below.refl _ _⟩))
            apply Exists.intro
            refine And.intro ?_ ?_
            · (intro W hW; (try simp only [Act.put, List.setIfInBounds_toArray, List.set_cons_zero, List.set_cons_succ]); first | (obtain ⟨hcW, hfW⟩ := bcell hW; have hsW := hW.size; (try simp at hsW); (try have hsW0 := lt_of_succ_le hsW); (try (have hsW1 := lt_pred hsW; (try (have hsW2 := lt_pred hsW1)))); go_wp2_with fail; exact ⟨rfl, rfl, Below.refl _ _⟩))
            apply Exists.intro
            refine And.intro ?_ ?_
            · (intro W hW; (try simp only [Act.put, List.setIfInBounds_toArray, List.set_cons_zero, List.set_cons_succ]); first | (go_wp2_with fail; exact ⟨rfl, rfl, Below.refl _ _⟩))
            apply Exists.intro
            refine And.intro ?_ ?_
            · (intro W hW; (try simp only [Act.put, List.setIfInBounds_toArray, List.set_cons_zero, List.set_cons_succ]); first | (go_wp2_with fail; exact ⟨rfl, rfl, Below.refl _ _⟩))
            apply Exists.intro
            refine And.intro ?_ ?_
            · (intro W hW; (try simp only [Act.put, List.setIfInBounds_toArray, List.set_cons_zero, List.set_cons_succ]); first | (go_wp2_with fail; exact ⟨rfl, rfl, Below.refl _ _⟩))
            apply Exists.intro
            refine And.intro ?_ ?_
            · (intro W hW; (try simp only [Act.put, List.setIfInBounds_toArray, List.set_cons_zero, List.set_cons_succ]); first | (obtain ⟨hcW, hfW⟩ := bcell hW; have hsW := hW.size; (try simp at hsW); (try have hsW0 := lt_of_succ_le hsW); (try (have hsW1 := lt_pred hsW; (try (have hsW2 := lt_pred hsW1)))); go_wp2_with fail; exact ⟨rfl, rfl, Below.refl _ _⟩))
            apply Exists.intro
            refine And.intro ?_ ?_
            · (intro W hW; (try simp only [Act.put, List.setIfInBounds_toArray, List.set_cons_zero, List.set_cons_succ]); first | (obtain ⟨hcW, hfW⟩ := bcell hW; have hsW := hW.size; (try simp at hsW); (try have hsW0 := lt_of_succ_le hsW); (try (have hsW1 := lt_pred hsW; (try (have hsW2 := lt_pred hsW1)))); go_wp2_with (first | (go_at_call 134; refine (c_lab1 x y _).mono ?_; rintro e w9 ⟨rfl, hb9⟩; rw [← HC.out])); exact ⟨rfl, rfl, (by repeat (first | (with_reducible exact Below.refl _ _) | (with_reducible refine ext_alloc ?_) | ((with_reducible refine ext_setCell ?_ ?_); focus (simp; (try omega))) | (with_reducible refine below_drewN ?_ _) | (with_reducible refine Below.drew ?_) | (with_reducible (apply ext_step; assumption))))⟩))
            apply Exists.intro
            refine And.intro ?_ ?_
            · (intro W hW; (try simp only [Act.put, List.setIfInBounds_toArray, List.set_cons_zero, List.set_cons_succ]); first | (go_wp2_with fail; exact ⟨rfl, rfl, Below.refl _ _⟩))
            apply Exists.intro
            refine And.intro ?_ ?_
            · (intro W hW; (try simp only [Act.put, List.setIfInBounds_toArray, List.set_cons_zero, List.set_cons_succ]); first | (go_wp2_with fail; exact ⟨rfl, rfl, Below.refl _ _⟩))
            intro w1 hb
            (first | (have hcu2 := Cum.join hcu hb; (try clear hcu); (try clear hc); (try clear hfz); (try clear hsz); (try clear hs0); (try clear hs1); (try clear hs2); (try clear hs3); (try clear hs4); ) | have hcu2 := Cum.mk hb); have hcu := hcu2; clear hcu2; obtain ⟨hc, hfz⟩ := bcell hcu.h; have hsz := hcu.h.size; (try simp at hsz); (try have hs0 := lt_of_succ_le hsz); (try (have hs1 := lt_pred hsz; (try (have hs2 := lt_pred hs1; (try (have hs3 := lt_pred hs2; (try have hs4 := lt_pred hs3)))))))
            (try simp only [Act.put, List.setIfInBounds_toArray, List.set_cons_zero, List.set_cons_succ])
            (try simp only [List.drop_succ_cons, List.drop_nil])
            have Bq := Lib.hid (ext_trans hbr hb)
            go_wp2_with fail
            go_roundw
            case rel => exact ⟨h + 1, j, by omega, by omega, hjb, by go_num, rfl, Bq.out⟩
            case measure => simp [intOf]; omega
            go_roundw
            case rel => exact ⟨i, h, hmi, by omega, by omega, rfl, rfl, Bq.out⟩
            case measure => simp [intOf]; omega
        · obtain rfl : i = j := by omega
          have HA := Lib.hid (show Aside (fun q => q = g) w wr from Aside.of_below hbr)
          go_wp2_with fail
          go_loopw [17] (fun s17 wr => ∃ (k : Nat) (l' : List Label), i ≤ k ∧ k ≤ m ∧ s17 = .int .i64 k ∧ SubL l' l ∧ RowE encL 2 142 base wr l' (.slice (some ⟨g, 0, none⟩) N cap) ∧ Aside (fun q => q = g) w wr) (fun s17 _ => (intOf s17).toNat)
          case atStart => exact ⟨m, l, by omega, Nat.le_refl _, rfl, SubL.refl _, HRr.out, HA.out⟩
          case round =>
            obtain ⟨k, l', hak, hki, rfl, hS, hR, hA⟩ := hrel
            have HS := Lib.hid hS
            have HR := Lib.hid hR
            have HA2 := Lib.hid hA
            have hll : l'.length = N := by rw [hS.1]; exact HN.out
            clear hS hA
            by_cases hlt : i < k
            · have hlt2 : (i : Int) < k := by omega
              obtain ⟨x, hx⟩ := exists_at (l := l') (k := k) (by omega)
              obtain ⟨y, hy⟩ := exists_at (l := l') (k := k - 1) (by omega)
              obtain ⟨x0, x1⟩ := two_cells HR.out hx
              obtain ⟨y0, y1⟩ := two_cells HR.out hy
              obtain ⟨hfz2, hgl2⟩ := row_frz HR.out
              have e0 : (0 : Int) ≤ (k : Int) := by omega
              have e1 : (k : Int) < (N : Int) := by omega
              have e2 : (0 : Int) ≤ (k : Int) - 1 := by omega
              have e3 : (k : Int) - 1 < (N : Int) := by omega
              have n0 : ¬ (k) * 2 = (k - 1) * 2 := by omega
              have n1 : ¬ (k) * 2 + 1 = (k - 1) * 2 := by omega
              have n2 : ¬ (k) * 2 = (k - 1) * 2 + 1 := by omega
              have n3 : ¬ (k) * 2 + 1 = (k - 1) * 2 + 1 := by omega
              have HR2 := Lib.hid ((hR.store (k := k) encL_len (by decide) (by omega) (x := y)).store (k := k - 1) encL_len (by decide) (by rw [List.length_set]; omega) (x := x))
              have HS2 := Lib.hid (SubL.trans (SubL.swap (i := k) (j := k - 1) (List.mem_of_getElem? hx) (List.mem_of_getElem? hy)) HS.out)
              have mixed : Try.prog.follows Departure.mixedOrders = true := by kernel_rfl
              clear hx hy hR
              go_wp2_with fail
              go_big_region_o
              all_goals go_wp2
              go_roundw
              case rel => exact ⟨k - 1, _, by omega, by omega, by go_num, HS2.out, HR2.out.carry (fun _ _ => rfl), HA2.out.trans (aside_drew (Aside.setCell (Aside.setCell (Aside.setCell (Aside.setCell (Aside.refl _ _) rfl) rfl) rfl) rfl))⟩
              case measure => simp [intOf]; omega
            · have hlt2 : ¬ (i : Int) < k := by omega
              go_wp2_with fail
              (try simp only [Exit.inBlock, Exit.then])
              exact bodyPost_ret (results_none rfl _ _ _) rfl ⟨rfl, l', HS.out, HR.out, HA2.out⟩
    · have h2b : ((b : Int) - m == 1) = false := beq_eq_false_iff_ne.2 h2
      clear h2
      obtain ⟨mid, hmid⟩ : ∃ k : Nat, k = (a + b) / 2 := ⟨_, rfl⟩
      have HM := Lib.hid (show ((a : Int) + b) / 2 = (mid : Int) by omega)
      have hm1 : a < mid := by omega
      have hm2 : mid < b := by omega
      have hm3 : 2 * mid ≤ a + b := by omega
      have hm4 : a + b ≤ 2 * mid + 1 := by omega
      clear hmid
      go_upto_region 25 with fail
      rw [HM.out]
      go_upto_if 140 with fail
      go_cut [20, 21] from 138 to 146 (fun s20 s21 wx => ∃ st r : Nat, s20 = .int .i64 st ∧ s21 = .int .i64 r ∧ a ≤ st ∧ mid + m ≤ st + b ∧ st ≤ r ∧ r ≤ m ∧ r ≤ mid ∧ w = wx)
      case first =>
        by_cases hgt : (mid : Int) < m
        · go_wp2_with fail
          go_meet
          exact ⟨mid + m - b, mid, by go_num, rfl, by omega, by omega, by omega, by omega, by omega, rfl⟩
        · go_wp2_with fail
          go_meet
          exact ⟨a, m, rfl, rfl, by omega, by omega, by omega, by omega, by omega, rfl⟩
      case rest =>
        obtain ⟨st, r, rfl, rfl, q1, q2, q3, q4, q5, rfl⟩ := hcut
        go_wp2_with fail
        go_loopw [20, 21] (fun s20 s21 wr => ∃ (st r : Nat), s20 = .int .i64 st ∧ s21 = .int .i64 r ∧ a ≤ st ∧ mid + m ≤ st + b ∧ st ≤ r ∧ r ≤ m ∧ r ≤ mid ∧ Below w.heap.size w wr) (fun s20 s21 _ => (intOf s21).toNat - (intOf s20).toNat)
        case atStart => exact ⟨st, r, rfl, rfl, q1, q2, q3, q4, q5, Below.refl _ _⟩
        case round =>
          clear q1 q2 q3 q4 q5
          obtain ⟨i, j, rfl, rfl, q1, q2, q3, q4, q5, hbr⟩ := hrel
          have HRr := Lib.hid (H.out.below hbr)
          obtain ⟨hfz, hgl⟩ := row_frz HRr.out
          by_cases hlt : i < j
          · have hlt2 : (i : Int) < j := by omega
            obtain ⟨h, hh⟩ : ∃ h : Nat, h = (i + j) / 2 := ⟨_, rfl⟩
            have hh1 : i ≤ h := by omega
            have hh2 : h < j := by omega
            have HH := Lib.hid (show ((i : Int) + j) / 2 = (h : Int) by omega)
            clear hh
            obtain ⟨x, hx⟩ := exists_at (l := l) (k := mid + m - 1 - h) (by rw [HN.out]; omega)
            obtain ⟨y, hy⟩ := exists_at (l := l) (k := h) (by rw [HN.out]; omega)
            obtain ⟨x0, x1⟩ := two_cells HRr.out hx
            obtain ⟨y0, y1⟩ := two_cells HRr.out hy
            clear hx hy
            have e0 : (h : Int) < N := by omega
            have e1 : (mid : Int) + m - 1 - h < N := by omega
            have e2 : (0 : Int) ≤ h := by omega
            have e3 : (0 : Int) ≤ (mid : Int) + m - 1 - h := by omega
            go_upto_region 35 with fail
            rw [HH.out]
            obtain ⟨cc, hcc⟩ : ∃ cc, cc = cmpS x.key y.key := ⟨_, rfl⟩
            have HC := Lib.hid hcc
            clear hcc
            refine wp_region_det 14 (by kernel_rfl) (by kernel_rfl) (by decide) ?_
            apply Exists.intro
            refine And.intro ?_ ?_
            · (intro W hW; (try simp only [Act.put, List.setIfInBounds_toArray, List.set_cons_zero, List.set_cons_succ]); first | (go_wp2_with fail; exact ⟨rfl, rfl, Below.refl _ _⟩))
            apply Exists.intro
            refine And.intro ?_ ?_
            · (intro W hW; (try simp only [Act.put, List.setIfInBounds_toArray, List.set_cons_zero, List.set_cons_succ]); first | (go_wp2_with fail; exact ⟨rfl, rfl, Below.refl _ _⟩))
            apply Exists.intro
            refine And.intro ?_ ?_
            · (intro W hW; (try simp only [Act.put, List.setIfInBounds_toArray, List.set_cons_zero, List.set_cons_succ]); first | (go_wp2_with fail; exact ⟨rfl, rfl, Below.refl _ _⟩))
            apply Exists.intro
            refine And.intro ?_ ?_
            · (intro W hW; (try simp only [Act.put, List.setIfInBounds_toArray, List.set_cons_zero, List.set_cons_succ]); first | (go_wp2_with fail; exact ⟨rfl, rfl, Below.refl _ _⟩))
            apply Exists.intro
            refine And.intro ?_ ?_
            · (intro W hW; (try simp only [Act.put, List.setIfInBounds_toArray, List.set_cons_zero, List.set_cons_succ]); first | (go_wp2_with fail; exact ⟨rfl, rfl, Below.refl _ _⟩))
            apply Exists.intro
            refine And.intro ?_ ?_
            · (intro W hW; (try simp only [Act.put, List.setIfInBounds_toArray, List.set_cons_zero, List.set_cons_succ]); first | (go_wp2_with fail; exact ⟨rfl, rfl, Below.refl _ _⟩))
            apply Exists.intro
            refine And.intro ?_ ?_
            · (intro W hW; (try simp only [Act.put, List.setIfInBounds_toArray, List.set_cons_zero, List.set_cons_succ]); first | (obtain ⟨hcW, hfW⟩ := bcell hW; have hsW := hW.size; (try simp at hsW); (try have hsW0 := lt_of_succ_le hsW); (try (have hsW1 := lt_pred hsW; (try (have hsW2 := lt_pred hsW1)))); go_wp2_with fail; exact ⟨rfl, rfl, Below.refl _ _⟩))
            apply Exists.intro
            refine And.intro ?_ ?_
            · (intro W hW; (try simp only [Act.put, List.setIfInBounds_toArray, List.set_cons_zero, List.set_cons_succ]); first | (go_wp2_with fail; exact ⟨rfl, rfl, Below.refl _ _⟩))
            apply Exists.intro
            refine And.intro ?_ ?_
            · (intro W hW; (try simp only [Act.put, List.setIfInBounds_toArray, List.set_cons_zero, List.set_cons_succ]); first | (go_wp2_with fail; exact ⟨rfl, rfl, Below.refl _ _⟩))
            apply Exists.intro
            refine And.intro ?_ ?_
            · (intro W hW; (try simp only [Act.put, List.setIfInBounds_toArray, List.set_cons_zero, List.set_cons_succ]); first | (go_wp2_with fail; exact ⟨rfl, rfl, Below.refl _ _⟩))
            apply Exists.intro
            refine And.intro ?_ ?_
            · (intro W hW; (try simp only [Act.put, List.setIfInBounds_toArray, List.set_cons_zero, List.set_cons_succ]); first | (obtain ⟨hcW, hfW⟩ := bcell hW; have hsW := hW.size; (try simp at hsW); (try have hsW0 := lt_of_succ_le hsW); (try (have hsW1 := lt_pred hsW; (try (have hsW2 := lt_pred hsW1)))); go_wp2_with fail; exact ⟨rfl, rfl, Below.refl _ _⟩))
            apply Exists.intro
            refine And.intro ?_ ?_
            · (intro W hW; (try simp only [Act.put, List.setIfInBounds_toArray, List.set_cons_zero, List.set_cons_succ]); first | (obtain ⟨hcW, hfW⟩ := bcell hW; have hsW := hW.size; (try simp at hsW); (try have hsW0 := lt_of_succ_le hsW); (try (have hsW1 := lt_pred hsW; (try (have hsW2 := lt_pred hsW1)))); go_wp2_with (first | (go_at_call 134; refine (c_lab1 x y _).mono ?_; rintro e w9 ⟨rfl, hb9⟩; rw [← HC.out])); exact ⟨rfl, rfl, (by repeat (first | (with_reducible exact Below.refl _ _) | (with_reducible refine ext_alloc ?_) | ((with_reducible refine ext_setCell ?_ ?_); focus (simp; (try omega))) | (with_reducible refine below_drewN ?_ _) | (with_reducible refine Below.drew ?_) | (with_reducible (apply ext_step; assumption))))⟩))
            apply Exists.intro
            refine And.intro ?_ ?_
            · (intro W hW; (try simp only [Act.put, List.setIfInBounds_toArray, List.set_cons_zero, List.set_cons_succ]); first | (go_wp2_with fail; exact ⟨rfl, rfl, Below.refl _ _⟩))
            apply Exists.intro
            refine And.intro ?_ ?_
            · (intro W hW; (try simp only [Act.put, List.setIfInBounds_toArray, List.set_cons_zero, List.set_cons_succ]); first | (go_wp2_with fail; exact ⟨rfl, rfl, Below.refl _ _⟩))
            intro w1 hb
            (first | (have hcu2 := Cum.join hcu hb; (try clear hcu); (try clear hc); (try clear hfz); (try clear hsz); (try clear hs0); (try clear hs1); (try clear hs2); (try clear hs3); (try clear hs4); ) | have hcu2 := Cum.mk hb); have hcu := hcu2; clear hcu2; obtain ⟨hc, hfz⟩ := bcell hcu.h; have hsz := hcu.h.size; (try simp at hsz); (try have hs0 := lt_of_succ_le hsz); (try (have hs1 := lt_pred hsz; (try (have hs2 := lt_pred hs1; (try (have hs3 := lt_pred hs2; (try have hs4 := lt_pred hs3)))))))
            (try simp only [Act.put, List.setIfInBounds_toArray, List.set_cons_zero, List.set_cons_succ])
            (try simp only [List.drop_succ_cons, List.drop_nil])
            have Bq := Lib.hid (ext_trans hbr hb)
            go_wp2_with fail
            · go_roundw
              case rel => exact ⟨h + 1, j, by go_num, rfl, by omega, by omega, by omega, q4, q5, Bq.out⟩
              case measure => simp [intOf]; omega
            · go_roundw
              case rel => exact ⟨i, h, rfl, rfl, q1, q2, hh1, by omega, by omega, Bq.out⟩
              case measure => simp [intOf]; omega
          · obtain rfl : i = j := by omega
            have HA0 := Lib.hid (show Aside (fun q => q = g) w wr from Aside.of_below hbr)
            clear hfz hgl hlt
            go_upto_region 39 with fail
            go_cut [185] from 178 to 185 (fun s185 wx => s185 = .bool (decide (i < m ∧ m < mid + m - i)) ∧ wr = wx)
            case first =>
              by_cases c1 : (i : Int) < m
              · by_cases c2 : (m : Int) < mid + m - i
                · go_wp2_with fail
                  go_meet
                  exact ⟨congrArg Value.bool (decide_eq_true (p := i < m ∧ m < mid + m - i) (by omega)).symm, rfl⟩
                · go_wp2_with fail
                  go_meet
                  exact ⟨congrArg Value.bool (decide_eq_false (p := i < m ∧ m < mid + m - i) (by omega)).symm, rfl⟩
              · go_wp2_with fail
                go_meet
                exact ⟨congrArg Value.bool (decide_eq_false (p := i < m ∧ m < mid + m - i) (by omega)).symm, rfl⟩
            case rest =>
              obtain ⟨rfl, rfl⟩ := hcut
              go_upto_if 185 with fail
              go_cut [] from 178 to 191 (fun wx => ∃ l1 : List Label, SubL l1 l ∧ RowE encL 2 142 base wx l1 (.slice (some ⟨g, 0, none⟩) N cap) ∧ Aside (fun q => q = g) w wx)
              case first =>
                by_cases hp : i < m ∧ m < mid + m - i
                · rw [decide_eq_true hp]
                  go_wp2_with fail
                  have hrot := c_rotate l N g cap base i m (mid + m - i) (.func (.func 134) #[] #[]) _ HN.out HRr.out hl hp.1 hp.2 (by omega)
                  rw [show ((mid + m - i : Nat) : Int) = (mid : Int) + m - i by omega] at hrot
                  refine hrot.mono ?_
                  rintro e w1 ⟨l1, rfl, hS1, hR1, hA1⟩
                  go_wp2_with fail
                  go_meet
                  exact ⟨l1, hS1, hR1, HA0.out.trans hA1⟩
                · rw [decide_eq_false hp]
                  go_wp2_with fail
                  go_meet
                  exact ⟨l, SubL.refl _, HRr.out, HA0.out⟩
              case rest =>
                obtain ⟨l1, hS1, hR1, hA1⟩ := hcut
                have HS1 := Lib.hid hS1
                have HR1 := Lib.hid hR1
                have HA1 := Lib.hid hA1
                have hN1 := Lib.hid (show l1.length = N by rw [hS1.1]; exact HN.out)
                clear hS1 hR1 hA1 HRr HA0 hbr
                go_upto_region 41 with fail
                go_cut [199] from 192 to 199 (fun s199 wx => s199 = .bool (decide (a < i ∧ i < mid)) ∧ wc = wx)
                case first =>
                  by_cases c1 : (a : Int) < i
                  · by_cases c2 : (i : Int) < mid
                    · go_wp2_with fail
                      go_meet
                      exact ⟨congrArg Value.bool (decide_eq_true (p := a < i ∧ i < mid) (by omega)).symm, rfl⟩
                    · go_wp2_with fail
                      go_meet
                      exact ⟨congrArg Value.bool (decide_eq_false (p := a < i ∧ i < mid) (by omega)).symm, rfl⟩
                  · go_wp2_with fail
                    go_meet
                    exact ⟨congrArg Value.bool (decide_eq_false (p := a < i ∧ i < mid) (by omega)).symm, rfl⟩
                case rest =>
                  obtain ⟨rfl, rfl⟩ := hcut
                  go_upto_if 199 with fail
                  go_cut [] from 192 to 205 (fun wx => ∃ l1 : List Label, SubL l1 l ∧ RowE encL 2 142 base wx l1 (.slice (some ⟨g, 0, none⟩) N cap) ∧ Aside (fun q => q = g) w wx)
                  case first =>
                    by_cases hp : a < i ∧ i < mid
                    · rw [decide_eq_true hp]
                      go_wp2_with fail
                      refine (Hih.out (mid - a) (by omega) l1 N g cap base a i mid _ (Nat.le_refl _) hN1.out HR1.out hl hp.1 hp.2 (by omega)).mono ?_
                      rintro e w1 ⟨l2, rfl, hS2, hR2, hA2⟩
                      go_wp2_with fail
                      go_meet
                      exact ⟨l2, hS2.trans HS1.out, hR2, HA1.out.trans hA2⟩
                    · rw [decide_eq_false hp]
                      go_wp2_with fail
                      go_meet
                      exact ⟨l1, HS1.out, HR1.out, HA1.out⟩
                  case rest =>
                    clear HS1 HR1 HA1 hN1
                    obtain ⟨l2, hS2, hR2, hA2⟩ := hcut
                    have HS2 := Lib.hid hS2
                    have HR2 := Lib.hid hR2
                    have HA2 := Lib.hid hA2
                    have hN2 := Lib.hid (show l2.length = N by rw [hS2.1]; exact HN.out)
                    clear hS2 hR2 hA2
                    by_cases hp : mid < mid + m - i ∧ mid + m - i < b
                    · have c1 : (mid : Int) < mid + m - i := by omega
                      have c2 : (mid : Int) + m - i < b := by omega
                      go_wp2_with fail
                      have hrec := Hih.out (b - mid) (by omega) l2 N g cap base mid (mid + m - i) b _ (Nat.le_refl _) hN2.out HR2.out hl hp.1 hp.2 (by omega)
                      rw [show ((mid + m - i : Nat) : Int) = (mid : Int) + m - i by omega] at hrec
                      refine hrec.mono ?_
                      rintro e w1 ⟨l3, rfl, hS3, hR3, hA3⟩
                      go_wp2_with fail
                      go_end0
                      exact ⟨l3, rfl, hS3.trans HS2.out, hR3, HA2.out.trans hA3⟩
                    · by_cases c1 : (mid : Int) < mid + m - i
                      · have c2 : ¬ (mid : Int) + m - i < b := by omega
                        go_wp2_with fail
                        go_end0
                        exact ⟨rfl, l2, HS2.out, HR2.out, HA2.out⟩
                      · go_wp2_with fail
                        go_end0
                        exact ⟨rfl, l2, HS2.out, HR2.out, HA2.out⟩
theorem c_symMerge (n : Nat) : T_sym n := by
  induction n using Nat.strongRecOn with
  | ind n ih => exact of_sym n ih
end Go.Proofs.Ytmhlnbihppojmaa
