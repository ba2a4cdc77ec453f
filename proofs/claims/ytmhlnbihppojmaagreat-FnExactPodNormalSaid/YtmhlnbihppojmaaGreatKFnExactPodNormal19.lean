/- Written by wip/tools/pack.py: the texts that FnExactPodNormal needs, without what it does not need. No conditions. -/
import Derived.Test.YtmhlnbihppojmaaGreatKFnExactPodNormal4
import Derived.Test.YtmhlnbihppojmaaGreatKFnExactPodNormal16
import Derived.Test.YtmhlnbihppojmaaGreatKFnExactPodNormal3
import Derived.Test.YtmhlnbihppojmaaGreatKFnExactPodNormal9
import Derived.Shelf.SlSortCmp.NoneTotal
import Derived.Test.YtmhlnbihppojmaaGreatKFnExactPodNormal6
import Derived.Deep.RegionLaw
import Derived.Test.YtmhlnbihppojmaaGreatKFnExactPodNormal18
import Derived.Test.YtmhlnbihppojmaaGreatKFnExactPodNormal5
import Derived.Test.YtmhlnbihppojmaaGreatKFnExactPodNormal2
import Derived.Test.YtmhlnbihppojmaaGreatKFnExactPodNormal7
import Derived.Test.YtmhlnbihppojmaaGreatKFnExactPodNormal17
import Derived.Test.YtmhlnbihppojmaaGreatKFnExactPodNormal13
import Derived.Test.YtmhlnbihppojmaaGreatKFnExactPodNormal10
import Derived.Test.YtmhlnbihppojmaaGreatKFnExactPodNormal1
namespace Go.Proofs.YtmhlnbihppojmaaGreat
open Go.RowKit
set_option maxHeartbeats 4000000 in
set_option maxRecDepth 10000 in
theorem c_Compact_Tolerance (l : List Tolerance) (v : Value) (base : Nat) (w : World) (h : RowE encTol 4 106 base w l v) (hn : l.length ≤ 1048576) :
    Calls Tryz.prog 128 #[v] w fun e w' => ∃ A c, e = .returned (.slice A (compB eqTol l).length c) ∧ RowE encTol 4 106 base w' (compB eqTol l) (.slice A (compB eqTol l).length c) ∧ Aside (fun b => v.ownBlock = some b) w w' := by
  have HE := Lib.hid tot_Tol.eq
  have H := Lib.hid h
  by_cases h2 : l.length < 2
  · obtain ⟨A, c, rfl⟩ := h.form
    have HS := Lib.hid (compB_short eqTol h2)
    have h2i : (l.length : Int) < 2 := by omega
    clear h
    go_enter Tryz.func128, Tryz.ntmps128
    go_wp2_with fail
    go_ret
    exact ⟨A, c, by rw [HS.out]; rfl, by rw [HS.out]; exact H.out, Aside.refl _ _⟩
  · obtain ⟨g, cap, cur, rfl, -, hg, hlc, hc63, -, -⟩ := h.row encTol_len (by omega)
    have hgl := row_lt hg
    have h2i : ¬ (l.length : Int) < 2 := by omega
    clear h hg
    go_enter Tryz.func128, Tryz.ntmps128
    go_wp2_with fail
    go_loopw [3] (fun s3 wr => ∃ k : Nat, 1 ≤ k ∧ k ≤ l.length ∧ s3 = .int .i64 k ∧ Below w.heap.size w wr ∧ FixB eqTol l k) (fun s3 _ => l.length - (intOf s3).toNat)
    case atStart => exact ⟨1, Nat.le_refl _, by omega, rfl, Below.refl _ _, compB_short eqTol (by rw [List.length_take]; omega)⟩
    case round =>
      obtain ⟨k, hk1, hk, rfl, hbw, hfix⟩ := hrel
      by_cases hlt : k < l.length
      · obtain ⟨-, -, -, -, cur, hg, -, hrow⟩ := (H.out.below hbw).at encTol_len
        obtain ⟨x, hx⟩ := exists_at hlt
        obtain ⟨y, hy⟩ := exists_at (show k - 1 < l.length by omega)
        have hx0 : wr.cell? ⟨g, k * 4, none⟩ = some (.string x.key) := by rw [cell_of_row _ g _ cur _ _ hg]; exact hrow k x hx 0 (by decide)
        have hx1 : wr.cell? ⟨g, k * 4 + 1, none⟩ = some (.bool x.equal) := by rw [cell_of_row _ g _ cur _ _ hg]; exact hrow k x hx 1 (by decide)
        have hx2 : wr.cell? ⟨g, k * 4 + 2, none⟩ = some (.string x.value) := by rw [cell_of_row _ g _ cur _ _ hg]; exact hrow k x hx 2 (by decide)
        have hx3 : wr.cell? ⟨g, k * 4 + 3, none⟩ = some (.int .i64 x.effect) := by rw [cell_of_row _ g _ cur _ _ hg]; exact hrow k x hx 3 (by decide)
        have hy0 : wr.cell? ⟨g, (k - 1) * 4, none⟩ = some (.string y.key) := by rw [cell_of_row _ g _ cur _ _ hg]; exact hrow (k - 1) y hy 0 (by decide)
        have hy1 : wr.cell? ⟨g, (k - 1) * 4 + 1, none⟩ = some (.bool y.equal) := by rw [cell_of_row _ g _ cur _ _ hg]; exact hrow (k - 1) y hy 1 (by decide)
        have hy2 : wr.cell? ⟨g, (k - 1) * 4 + 2, none⟩ = some (.string y.value) := by rw [cell_of_row _ g _ cur _ _ hg]; exact hrow (k - 1) y hy 2 (by decide)
        have hy3 : wr.cell? ⟨g, (k - 1) * 4 + 3, none⟩ = some (.int .i64 y.effect) := by rw [cell_of_row _ g _ cur _ _ hg]; exact hrow (k - 1) y hy 3 (by decide)
        have hgl2 := row_lt hg
        have hk0 : (0 : Int) ≤ k := by omega
        have hk1' : (1 : Int) ≤ k := by omega
        have hk2 : (k : Int) < l.length := by omega
        have hk3 : (k : Int) - 1 < l.length := by omega
        have hkc : (k : Int) ≤ cap := by omega
        have Hx := Lib.hid hx
        have Hy := Lib.hid hy
        clear hx hy hrow hg
        go_wp2_with fail
        rcases q1 : (x.key.toList == y.key.toList) with _ | _
        all_goals rcases q2 : (x.equal == y.equal) with _ | _
        all_goals rcases q3 : (x.value.toList == y.value.toList) with _ | _
        all_goals rcases q4 : (x.effect == y.effect) with _ | _
        all_goals have q9 : eqTol x y = ((x.key.toList == y.key.toList) && ((x.equal == y.equal) && ((x.value.toList == y.value.toList) && (x.effect == y.effect)))) := rfl
        all_goals rw [q1, q2, q3, q4] at q9
        all_goals
          refine wp_region_det 10 (by kernel_rfl) (by kernel_rfl) (by decide) ?_
          apply Exists.intro
          refine And.intro ?_ ?_
          · (intro W hW; (try simp only [Act.put, List.setIfInBounds_toArray, List.set_cons_zero, List.set_cons_succ]); first | (go_wp2_with fail; exact ⟨rfl, rfl, Below.refl _ _⟩))
          apply Exists.intro
          refine And.intro ?_ ?_
          · (intro W hW; (try simp only [Act.put, List.setIfInBounds_toArray, List.set_cons_zero, List.set_cons_succ]); first | (go_wp2_with fail; exact ⟨rfl, rfl, Below.refl _ _⟩))
          apply Exists.intro
          refine And.intro ?_ ?_
          · (intro W hW; (try simp only [Act.put, List.setIfInBounds_toArray, List.set_cons_zero, List.set_cons_succ]); first | (go_wp2_with fail; exact ⟨rfl, rfl, Below.refl _ _⟩))
          apply Exists.intro
          refine And.intro ?_ ?_
          · (intro W hW; (try simp only [Act.put, List.setIfInBounds_toArray, List.set_cons_zero, List.set_cons_succ]); first | (obtain ⟨hcW, hfW⟩ := bcell hW; have hsW := hW.size; (try simp at hsW); (try have hsW0 := lt_of_succ_le hsW); (try (have hsW1 := lt_pred hsW; (try (have hsW2 := lt_pred hsW1)))); go_wp2_with fail; exact ⟨rfl, rfl, Below.refl _ _⟩))
          apply Exists.intro
          refine And.intro ?_ ?_
          · (intro W hW; (try simp only [Act.put, List.setIfInBounds_toArray, List.set_cons_zero, List.set_cons_succ]); first | (go_wp2_with fail; exact ⟨rfl, rfl, Below.refl _ _⟩))
          apply Exists.intro
          refine And.intro ?_ ?_
          · (intro W hW; (try simp only [Act.put, List.setIfInBounds_toArray, List.set_cons_zero, List.set_cons_succ]); first | (go_wp2_with fail; exact ⟨rfl, rfl, Below.refl _ _⟩))
          apply Exists.intro
          refine And.intro ?_ ?_
          · (intro W hW; (try simp only [Act.put, List.setIfInBounds_toArray, List.set_cons_zero, List.set_cons_succ]); first | (go_wp2_with fail; exact ⟨rfl, rfl, Below.refl _ _⟩))
          apply Exists.intro
          refine And.intro ?_ ?_
          · (intro W hW; (try simp only [Act.put, List.setIfInBounds_toArray, List.set_cons_zero, List.set_cons_succ]); first | (go_wp2_with fail; exact ⟨rfl, rfl, Below.refl _ _⟩))
          apply Exists.intro
          refine And.intro ?_ ?_
          · (intro W hW; (try simp only [Act.put, List.setIfInBounds_toArray, List.set_cons_zero, List.set_cons_succ]); first | (obtain ⟨hcW, hfW⟩ := bcell hW; have hsW := hW.size; (try simp at hsW); (try have hsW0 := lt_of_succ_le hsW); (try (have hsW1 := lt_pred hsW; (try (have hsW2 := lt_pred hsW1)))); go_wp2_with fail; exact ⟨rfl, rfl, Below.refl _ _⟩))
          apply Exists.intro
          refine And.intro ?_ ?_
          · (intro W hW; (try simp only [Act.put, List.setIfInBounds_toArray, List.set_cons_zero, List.set_cons_succ]); first | (go_wp2_with fail; exact ⟨rfl, rfl, Below.refl _ _⟩))
          intro w1 hb
          (first | (have hcu2 := Cum.join hcu hb; (try clear hcu); (try clear hc); (try clear hfz); (try clear hsz); (try clear hs0); (try clear hs1); (try clear hs2); (try clear hs3); (try clear hs4); ) | have hcu2 := Cum.mk hb); have hcu := hcu2; clear hcu2; obtain ⟨hc, hfz⟩ := bcell hcu.h; have hsz := hcu.h.size; (try simp at hsz); (try have hs0 := lt_of_succ_le hsz); (try (have hs1 := lt_pred hsz; (try (have hs2 := lt_pred hs1; (try (have hs3 := lt_pred hs2; (try have hs4 := lt_pred hs3)))))))
          (try simp only [Act.put, List.setIfInBounds_toArray, List.set_cons_zero, List.set_cons_succ])
          (try simp only [List.drop_succ_cons, List.drop_nil])
          have Bq := hbw.trans (hb.mono hbw.size)
          first
            | (have hne : eqTol x y = false := q9
               have Hf := Lib.hid (show FixB eqTol l (k + 1) by unfold FixB; unfold FixB at hfix; rw [compB_take HE.out hk1 Hy.out Hx.out, hne, hfix, List.take_add_one, Hx.out]; rfl)
               go_wp2_with fail
               go_roundw
               case rel => exact ⟨k + 1, by omega, by omega, by go_num, Bq, Hf.out⟩
               case measure => simp [intOf]; omega)
            | skip
        have hI0 := Lib.hid (CompL.start HE.out hk1 Hy.out Hx.out hfix q9)
        have HRow := Lib.hid (H.out.below Bq)
        have HAs : Aside (fun b => b = g) w w1 := Aside.of_below Bq
        clear q9 q1 q2 q3 q4
        go_wp2_with fail
        go_loopw [3, 5] (fun s3 s5 wr => ∃ (kk k2 : Nat) (L : List Tolerance), s3 = .int .i64 kk ∧ s5 = .int .i64 k2 ∧ 1 ≤ k2 ∧ k + k2 ≤ l.length ∧ CompL eqTol l (k + k2) kk L ∧ RowE encTol 4 106 base wr L (.slice (some ⟨g, 0, none⟩) l.length cap) ∧ Aside (fun b => b = g) w wr) (fun _ s5 _ => l.length - k - (intOf s5).toNat)
        case atStart => exact ⟨k, 1, l, rfl, rfl, Nat.le_refl _, by omega, hI0.out, HRow.out, HAs⟩
        case round =>
          obtain ⟨kk, k2, L, rfl, rfl, h1, hle, hI, hRw, hAs⟩ := hrel
          have hkk := hI.lt
          have HI := Lib.hid hI
          have HR2 := Lib.hid hRw
          have hLl := Lib.hid hI.size
          obtain ⟨-, -, -, -, cur, hg, hcs, hrow⟩ := hRw.at encTol_len
          have hfz : ∀ o, wr.frozen? ⟨g, o, none⟩ = false := fun o => frozen_row hg o
          have hgl3 := row_lt hg
          by_cases hlt2 : k + k2 < l.length
          · obtain ⟨x, hx⟩ := exists_at hlt2
            obtain ⟨y, hy⟩ := exists_at (show k + k2 - 1 < l.length by omega)
            obtain ⟨z, hz⟩ := exists_at (show kk < l.length by omega)
            have hxL := (hI.high (k + k2) (by omega)).trans hx
            have hyL := (hI.high (k + k2 - 1) (by omega)).trans hy
            have hzL := (hI.high kk (by omega)).trans hz
            have hx0 : wr.cell? ⟨g, k * 4 + k2 * 4, none⟩ = some (.string x.key) := by rw [cell_of_row _ g _ cur _ _ hg, show k * 4 + k2 * 4 = (k + k2) * 4 + 0 by omega]; exact hrow _ x hxL 0 (by decide)
            have hx1 : wr.cell? ⟨g, k * 4 + k2 * 4 + 1, none⟩ = some (.bool x.equal) := by rw [cell_of_row _ g _ cur _ _ hg, show k * 4 + k2 * 4 + 1 = (k + k2) * 4 + 1 by omega]; exact hrow _ x hxL 1 (by decide)
            have hx2 : wr.cell? ⟨g, k * 4 + k2 * 4 + 2, none⟩ = some (.string x.value) := by rw [cell_of_row _ g _ cur _ _ hg, show k * 4 + k2 * 4 + 2 = (k + k2) * 4 + 2 by omega]; exact hrow _ x hxL 2 (by decide)
            have hx3 : wr.cell? ⟨g, k * 4 + k2 * 4 + 3, none⟩ = some (.int .i64 x.effect) := by rw [cell_of_row _ g _ cur _ _ hg, show k * 4 + k2 * 4 + 3 = (k + k2) * 4 + 3 by omega]; exact hrow _ x hxL 3 (by decide)
            have hy0 : wr.cell? ⟨g, k * 4 + (k2 - 1) * 4, none⟩ = some (.string y.key) := by rw [cell_of_row _ g _ cur _ _ hg, show k * 4 + (k2 - 1) * 4 = (k + k2 - 1) * 4 + 0 by omega]; exact hrow _ y hyL 0 (by decide)
            have hy1 : wr.cell? ⟨g, k * 4 + (k2 - 1) * 4 + 1, none⟩ = some (.bool y.equal) := by rw [cell_of_row _ g _ cur _ _ hg, show k * 4 + (k2 - 1) * 4 + 1 = (k + k2 - 1) * 4 + 1 by omega]; exact hrow _ y hyL 1 (by decide)
            have hy2 : wr.cell? ⟨g, k * 4 + (k2 - 1) * 4 + 2, none⟩ = some (.string y.value) := by rw [cell_of_row _ g _ cur _ _ hg, show k * 4 + (k2 - 1) * 4 + 2 = (k + k2 - 1) * 4 + 2 by omega]; exact hrow _ y hyL 2 (by decide)
            have hy3 : wr.cell? ⟨g, k * 4 + (k2 - 1) * 4 + 3, none⟩ = some (.int .i64 y.effect) := by rw [cell_of_row _ g _ cur _ _ hg, show k * 4 + (k2 - 1) * 4 + 3 = (k + k2 - 1) * 4 + 3 by omega]; exact hrow _ y hyL 3 (by decide)
            have hz0 : wr.cell? ⟨g, kk * 4, none⟩ = some (.string z.key) := by rw [cell_of_row _ g _ cur _ _ hg]; exact hrow _ z hzL 0 (by decide)
            have hz1 : wr.cell? ⟨g, kk * 4 + 1, none⟩ = some (.bool z.equal) := by rw [cell_of_row _ g _ cur _ _ hg]; exact hrow _ z hzL 1 (by decide)
            have hz2 : wr.cell? ⟨g, kk * 4 + 2, none⟩ = some (.string z.value) := by rw [cell_of_row _ g _ cur _ _ hg]; exact hrow _ z hzL 2 (by decide)
            have hz3 : wr.cell? ⟨g, kk * 4 + 3, none⟩ = some (.int .i64 z.effect) := by rw [cell_of_row _ g _ cur _ _ hg]; exact hrow _ z hzL 3 (by decide)
            have e1 : (1 : Int) ≤ k2 := by omega
            have e2 : (k2 : Int) < l.length - k := by omega
            have e3 : (0 : Int) ≤ k2 := by omega
            have e4 : (k2 : Int) - 1 < l.length - k := by omega
            have e5 : k2 < l.length - k := by omega
            have e6 : (kk : Int) < l.length := by omega
            have e7 : (0 : Int) ≤ kk := by omega
            have Hx := Lib.hid hx
            have Hy := Lib.hid hy
            clear hx hy hz hxL hyL hzL hrow hg hcs hI hRw
            go_wp2_with fail
            rcases q1 : (x.key.toList == y.key.toList) with _ | _
            all_goals rcases q2 : (x.equal == y.equal) with _ | _
            all_goals rcases q3 : (x.value.toList == y.value.toList) with _ | _
            all_goals rcases q4 : (x.effect == y.effect) with _ | _
            all_goals have q9 : eqTol x y = ((x.key.toList == y.key.toList) && ((x.equal == y.equal) && ((x.value.toList == y.value.toList) && (x.effect == y.effect)))) := rfl
            all_goals rw [q1, q2, q3, q4] at q9
            all_goals
              refine wp_region_det 10 (by kernel_rfl) (by kernel_rfl) (by decide) ?_
              apply Exists.intro
              refine And.intro ?_ ?_
              · (intro W hW; (try simp only [Act.put, List.setIfInBounds_toArray, List.set_cons_zero, List.set_cons_succ]); first | (go_wp2_with fail; exact ⟨rfl, rfl, Below.refl _ _⟩))
              apply Exists.intro
              refine And.intro ?_ ?_
              · (intro W hW; (try simp only [Act.put, List.setIfInBounds_toArray, List.set_cons_zero, List.set_cons_succ]); first | (go_wp2_with fail; exact ⟨rfl, rfl, Below.refl _ _⟩))
              apply Exists.intro
              refine And.intro ?_ ?_
              · (intro W hW; (try simp only [Act.put, List.setIfInBounds_toArray, List.set_cons_zero, List.set_cons_succ]); first | (go_wp2_with fail; exact ⟨rfl, rfl, Below.refl _ _⟩))
              apply Exists.intro
              refine And.intro ?_ ?_
              · (intro W hW; (try simp only [Act.put, List.setIfInBounds_toArray, List.set_cons_zero, List.set_cons_succ]); first | (obtain ⟨hcW, hfW⟩ := bcell hW; have hsW := hW.size; (try simp at hsW); (try have hsW0 := lt_of_succ_le hsW); (try (have hsW1 := lt_pred hsW; (try (have hsW2 := lt_pred hsW1)))); go_wp2_with fail; exact ⟨rfl, rfl, Below.refl _ _⟩))
              apply Exists.intro
              refine And.intro ?_ ?_
              · (intro W hW; (try simp only [Act.put, List.setIfInBounds_toArray, List.set_cons_zero, List.set_cons_succ]); first | (go_wp2_with fail; exact ⟨rfl, rfl, Below.refl _ _⟩))
              apply Exists.intro
              refine And.intro ?_ ?_
              · (intro W hW; (try simp only [Act.put, List.setIfInBounds_toArray, List.set_cons_zero, List.set_cons_succ]); first | (go_wp2_with fail; exact ⟨rfl, rfl, Below.refl _ _⟩))
              apply Exists.intro
              refine And.intro ?_ ?_
              · (intro W hW; (try simp only [Act.put, List.setIfInBounds_toArray, List.set_cons_zero, List.set_cons_succ]); first | (go_wp2_with fail; exact ⟨rfl, rfl, Below.refl _ _⟩))
              apply Exists.intro
              refine And.intro ?_ ?_
              · (intro W hW; (try simp only [Act.put, List.setIfInBounds_toArray, List.set_cons_zero, List.set_cons_succ]); first | (go_wp2_with fail; exact ⟨rfl, rfl, Below.refl _ _⟩))
              apply Exists.intro
              refine And.intro ?_ ?_
              · (intro W hW; (try simp only [Act.put, List.setIfInBounds_toArray, List.set_cons_zero, List.set_cons_succ]); first | (obtain ⟨hcW, hfW⟩ := bcell hW; have hsW := hW.size; (try simp at hsW); (try have hsW0 := lt_of_succ_le hsW); (try (have hsW1 := lt_pred hsW; (try (have hsW2 := lt_pred hsW1)))); go_wp2_with fail; exact ⟨rfl, rfl, Below.refl _ _⟩))
              apply Exists.intro
              refine And.intro ?_ ?_
              · (intro W hW; (try simp only [Act.put, List.setIfInBounds_toArray, List.set_cons_zero, List.set_cons_succ]); first | (go_wp2_with fail; exact ⟨rfl, rfl, Below.refl _ _⟩))
              intro w1 hb
              (first | (have hcu2 := Cum.join hcu hb; (try clear hcu); (try clear hc); (try clear hfz); (try clear hsz); (try clear hs0); (try clear hs1); (try clear hs2); (try clear hs3); (try clear hs4); ) | have hcu2 := Cum.mk hb); have hcu := hcu2; clear hcu2; obtain ⟨hc, hfz⟩ := bcell hcu.h; have hsz := hcu.h.size; (try simp at hsz); (try have hs0 := lt_of_succ_le hsz); (try (have hs1 := lt_pred hsz; (try (have hs2 := lt_pred hs1; (try (have hs3 := lt_pred hs2; (try have hs4 := lt_pred hs3)))))))
              (try simp only [Act.put, List.setIfInBounds_toArray, List.set_cons_zero, List.set_cons_succ])
              (try simp only [List.drop_succ_cons, List.drop_nil])
              have Bq := hAs.trans (Aside.of_below hb)
              have HR3 := Lib.hid (HR2.out.below hb)
              have hfw : ∀ o, w1.frozen? ⟨g, o, none⟩ = false := (by intro o; obtain ⟨-, -, -, -, cur9, hg9, -⟩ := HR3.out.at encTol_len; exact frozen_row hg9 o)
              have hkL := Lib.hid (show kk < L.length by rw [hLl.out]; omega)
              first
                | (have heq : eqTol x y = true := q9
                   have HI2 := Lib.hid (HI.out.skip HE.out (show l[k + k2 - 1]? = some y from Hy.out) Hx.out heq)
                   go_wp2_with fail
                   go_roundw
                   case rel => exact ⟨kk, k2 + 1, L, rfl, by go_num, by omega, by omega, HI2.out, HR3.out, Bq⟩
                   case measure => simp [intOf]; omega)
                | (have hne : eqTol x y = false := q9
                   have HI2 := Lib.hid (HI.out.keep HE.out (show l[k + k2 - 1]? = some y from Hy.out) Hx.out hne)
                   have HR4 := Lib.hid (HR3.out.store encTol_len (by decide) hkL.out (x := x))
                   clear q1 q2 q3 q4 q9
                   go_wp2_with fail
                   go_roundw
                   case rel => exact ⟨kk + 1, k2 + 1, L.set kk x, by go_num, by go_num, by omega, by omega, HI2.out, HR4.out, Bq.trans (aside_setCells (S := fun b => b = g) (g := g) rfl (encTol x) (kk * 4) _)⟩
                   case measure => simp [intOf]; omega)
          · have hend : k + k2 = l.length := by omega
            have hkl : kk < l.length := by omega
            have hks : kk * 4 + (l.length - kk) * 4 = l.length * 4 := by omega
            obtain ⟨zs, hzl, hcl⟩ := run_clear_row (P := Tryz.prog) wr 42 106 (.agg #[.string ⟨#[]⟩, .bool false, .string ⟨#[]⟩, .int .i64 0]) 4 Tryz.underlying42 (fun _ => by kernel_rfl) rfl (by decide) g (kk * 4) (l.length - kk) (cap - kk) (by omega) (fun j hj => by rw [cell_of_row _ g _ cur _ _ hg, Array.getElem?_eq_getElem (by omega)]; rfl) (fun j _ => hfz _)
            have HI2 := Lib.hid (show (compB eqTol l).length = kk ∧ L.take kk = compB eqTol l by have a := hI.len hle; have b := hI.low; rw [hend, List.take_length] at a b; exact ⟨a, b⟩)
            have HR4 := Lib.hid (hRw.cut (zs := zs) encTol_len (show kk ≤ L.length by rw [hLl.out]; omega))
            have e6 : (kk : Int) ≤ l.length := by omega
            have e7 : (0 : Int) ≤ kk := by omega
            have e8 : (kk : Int) ≤ cap := by omega
            have e9 : ¬ (k2 : Int) < l.length - k := by omega
            have HH := Lib.hid hend
            clear hI hRw hrow hg hcs hzl hks hend
            go_wp2_with fail
            go_ret
            exact ⟨some ⟨g, 0, none⟩, cap, by rw [HI2.out.1]; rfl, by rw [HI2.out.1, ← HI2.out.2]; exact HR4.out, (hAs.trans (aside_setCells (S := fun b => b = g) (g := g) rfl zs (kk * 4) _)).mono (fun b hb => by subst hb; rfl)⟩
      · obtain rfl : k = l.length := by omega
        have HF := Lib.hid (show compB eqTol l = l by unfold FixB at hfix; rw [List.take_length] at hfix; exact hfix)
        have hnn : ¬ (l.length : Int) < l.length := by omega
        go_wp2_with fail
        go_ret
        exact ⟨some ⟨g, 0, none⟩, cap, by rw [HF.out]; rfl, by rw [HF.out]; exact H.out.below hbw, Aside.of_below hbw⟩
end Go.Proofs.YtmhlnbihppojmaaGreat
namespace Go.Proofs.YtmhlnbihppojmaaGreat
open Go.RowKit
theorem ltOf_Tol : Go.Proofs.ltOf cmpTol = lessTol := by
  funext a b
  unfold Go.Proofs.ltOf
  exact (lessTol_iff a b).symm
theorem c_SortFunc_Tolerance (l : List Tolerance) (v : Value) (base : Nat) (w : World) (h : RowE encTol 4 106 base w l v) (hn : l.length ≤ 1048576) :
    Calls Tryz.prog 126 #[v, .func (.func 127) #[] #[]] w fun e w' => ∃ l', e = .returned (.tuple #[]) ∧ l'.length = l.length ∧ (∀ x, x ∈ l' ↔ x ∈ l) ∧ l'.Pairwise (fun a b => lessTol b a = false) ∧ RowE encTol 4 106 base w' l' v ∧ Aside (fun b => v.ownBlock = some b) w w' := by
  by_cases hp : 0 < l.length
  · obtain ⟨g, cap, cur, rfl, hb, hg, h1, h2, -, -⟩ := h.row encTol_len hp
    have hH := h.holds encTol_len (by decide) hp
    have eg : ∀ args w, (callFunc 127 args).run Tryz.prog w = .ok (.enter 127 args) w := enters_of Tryz.func127 (by kernel_rfl) rfl
    have hO : Go.Sort.SWO (Go.Proofs.ltOf cmpTol) := by rw [ltOf_Tol]; exact lt_Tol
    have hcon := AnyQ.slices_SortFunc sortTolerance 4 Tryz.isAgg106 Tryz.sizeOf106 encTol encTol_len encTol_one cmpTol hO 127 #[] g 0 cap l.toArray w eg (fun m os dk _ x y => (x_compareTolerances x y _).mono fun e w' h => h) hH (row_lt hg) (by simp; omega)
    change Calls Tryz.prog 126 _ _ _ at hcon
    rw [List.size_toArray] at hcon
    refine hcon.mono ?_
    rintro e w' ⟨rfl, d', m, os, hP, hS, rfl⟩
    obtain ⟨p1, p2⟩ := perm_of_in (by rw [List.size_toArray]; exact hP)
    rw [ltOf_Tol] at hS
    refine ⟨d'.toList, rfl, by simpa using p1, p2, pair_of_sorted (by rw [p1]; exact hS), h.sorted encTol_len (by decide) p1, sorted_aside.mono (fun b hb => by subst hb; rfl)⟩
  · obtain rfl : l = [] := List.eq_nil_of_length_eq_zero (by omega)
    obtain ⟨A, c, rfl⟩ := h.form
    have hcon := AnyF.slices_SortFunc_none sortTolerance A c (.func (.func 127) #[] #[]) w
    change Calls Tryz.prog 126 _ _ _ at hcon
    refine hcon.mono ?_
    rintro e w' ⟨rfl, rfl⟩
    exact ⟨[], rfl, rfl, fun x => Iff.rfl, List.Pairwise.nil, h, Aside.refl _ _⟩
end Go.Proofs.YtmhlnbihppojmaaGreat
namespace Go.Proofs.YtmhlnbihppojmaaGreat
open Go.RowKit
set_option maxHeartbeats 2000000 in
set_option maxRecDepth 10000 in
theorem c_impl_SortTolerances (l : List Tolerance) (v : Value) (w : World) (lo : Nat) (hs : Sl_Tolerance lo w.heap.size w l v) (hn : l.length ≤ 1048576) :
    Calls Tryz.prog 65 #[v] w fun e w' => ∃ A c, e = .returned (.tuple #[.slice A (sortTolB l).1.length c, .bool (sortTolB l).2]) ∧ RowE encTol 4 106 w.heap.size w' (sortTolB l).1 (.slice A (sortTolB l).1.length c) ∧ Below w.heap.size w w' := by
  have HCd := Lib.hid (Tolerance_of_ord hs)
  have hs' := hs
  obtain ⟨A, c, rfl, hlc, hc, -⟩ := hs
  have HS := Lib.hid hs'
  clear hs'
  by_cases h40 : (40 : Int) < l.length
  · have Hf := Lib.hid (show sortTolB l = (l, false) by unfold sortTolB; rw [if_pos (by omega)])
    go_enter Tryz.func65, Tryz.ntmps65
    go_wp2_with fail
    refine (c_Clone_Tolerance l _ _ _ HS.out hn).mono ?_
    rintro e w1 ⟨A1, c1, rfl, hR, hb⟩
    have HR := Lib.hid hR
    clear hR
    go_wp2_with fail
    go_ret2
    exact ⟨A1, c1, by rw [Hf.out]; rfl, by rw [Hf.out]; exact HR.out, hb⟩
  · have h40n : ¬ 40 < l.length := by omega
    have H40 := Lib.hid h40n
    clear h40n
    go_enter Tryz.func65, Tryz.ntmps65
    go_wp2_with fail
    refine (c_Clone_Tolerance l _ _ _ HS.out hn).mono ?_
    rintro e w1 ⟨A1, c1, rfl, hR, hb1⟩
    have HR := Lib.hid hR
    clear hR
    go_wp2_with fail
    refine (c_SortFunc_Tolerance l _ w.heap.size _ HR.out hn).mono ?_
    rintro e w2 ⟨l2, rfl, hl2, hm2, hp2, hR2, has2⟩
    have hb2 : Below w.heap.size w w2 := hb1.trans (has2.below hb1.size (fun b hb => (World.ownsRow.lt HR.out b hb).1))
    have HE := Lib.hid (comp_is_ord tot_Tol hp2 hm2)
    have HR2 := Lib.hid hR2
    have HL2 := Lib.hid hl2
    clear hl2 hm2 hp2 hR2 has2
    go_wp2_with fail
    refine (c_Compact_Tolerance l2 _ w.heap.size _ HR2.out (by rw [HL2.out]; exact hn)).mono ?_
    rintro e w3 ⟨A3, c3, rfl, hR3, has3⟩
    rw [HE.out] at hR3 ⊢
    have hb3 : Below w.heap.size w w3 := hb2.trans (has3.below hb2.size (fun b hb => (World.ownsRow.lt HR2.out b hb).1))
    obtain ⟨O, hO⟩ : ∃ O, O = ordB lessTol eqTol l := ⟨_, rfl⟩
    rw [← hO] at hR3 ⊢
    have HO := Lib.hid hO
    have HR3 := Lib.hid hR3
    have HSl := Lib.hid (RowE.sl encTol_len hR3 (C := C_Tolerance) (fun d hd => HCd.out d ((ordB_all tot_Tol l).2 d |>.1 (by rw [← hO]; exact hd))))
    clear hR3 has3 hO
    go_wp2_with fail
    refine (c_impl_TolerancesOk O _ _ _ HSl.out).mono ?_
    rintro e w4 ⟨rfl, hb4⟩
    have B4 := hb3.trans (hb4.mono hb3.size)
    rcases ht : tolsOkB O with _ | _
    · have Hf := Lib.hid (show sortTolB l = (l, false) by unfold sortTolB; rw [if_neg H40.out, ← HO.out, ht]; rfl)
      go_wp2_with fail
      refine (c_Clone_Tolerance l _ _ _ (Sl_Tolerance.now HS.out B4) hn).mono ?_
      rintro e w5 ⟨A5, c5, rfl, hR5, hb5⟩
      have HR5 := Lib.hid (hR5.less B4.size)
      have B5 := B4.trans (hb5.mono B4.size)
      clear hR5
      go_wp2_with fail
      go_ret2
      exact ⟨A5, c5, by rw [Hf.out]; rfl, by rw [Hf.out]; exact HR5.out, B5⟩
    · have Hf := Lib.hid (show sortTolB l = (O, true) by unfold sortTolB; rw [if_neg H40.out, ← HO.out, ht]; rfl)
      have HR5 := Lib.hid (HR3.out.below hb4)
      go_wp2_with fail
      go_ret2
      exact ⟨A3, c3, by rw [Hf.out]; rfl, by rw [Hf.out]; exact HR5.out, B4⟩
end Go.Proofs.YtmhlnbihppojmaaGreat
namespace Go.Proofs.YtmhlnbihppojmaaGreat
open Go.RowKit
def nameC (c : Int) : Bool := lowerB c || digitB c || (c == 45)
def nameB (s : ByteArray) : Bool :=
  inB s.size 1 20 && s.data.toList.all (fun c => nameC (c.toNat : Int)) && (match s.data.toList.head? with | some c => ((c.toNat : Int) != 45) | none => false) && (match s.data.toList.getLast? with | some c => ((c.toNat : Int) != 45) | none => false)
theorem nameB_len {s : ByteArray} (h : inB s.size 1 20 = false) : nameB s = false := by unfold nameB; rw [h]; rfl
theorem nameB_of (s : ByteArray) (h : inB s.size 1 20 = true) (h0 : 0 < s.size) (ha : s.data.toList.all (fun c => nameC (c.toNat : Int)) = true) :
    nameB s = (((s[0].toNat : Int) != 45) && (((s[s.size - 1]'(by omega)).toNat : Int) != 45)) := by
  simp only [nameB, h, ha, data_head s h0, data_last s h0, Bool.true_and]
theorem nameB_first (s : ByteArray) (h0 : 0 < s.size) (h : ((s[0].toNat : Int) != 45) = false) : nameB s = false := by
  simp only [nameB, data_head s h0, h, Bool.and_false, Bool.false_and]
theorem nameB_last (s : ByteArray) (h0 : 0 < s.size) (h : (((s[s.size - 1]'(by omega)).toNat : Int) != 45) = false) : nameB s = false := by
  simp only [nameB, data_last s h0, h, Bool.and_false]
theorem nameB_bad (s : ByteArray) (k : Nat) (hk : k < s.size) (h : nameC (s[k].toNat : Int) = false) : nameB s = false := by
  have : s.data.toList.all (fun c => nameC (c.toNat : Int)) = false := by
    rw [List.all_eq_false]
    exact ⟨s[k], List.mem_iff_getElem?.2 ⟨k, data_getElem? s k hk⟩, by simp only [h]; decide⟩
  simp only [nameB, this, Bool.and_false, Bool.false_and]
set_option maxHeartbeats 1000000 in
theorem c_impl_NameOk (s : ByteArray) (w : World) (h1 : s.size ≤ 9223372036854775807) : Calls Tryz.prog 130 #[.string s] w fun e w' => e = .returned (.bool (nameB s)) ∧ w = w' := by
  go_enter Tryz.func130, Tryz.ntmps130
  go_wp2_with fail
  go_loop [7] (fun i => ∃ k : Nat, k ≤ s.size ∧ i = .int .i64 k ∧ (s.data.toList.take k).all (fun c => nameC (c.toNat : Int)) = true) (fun i => s.size - (intOf i).toNat)
  case atStart => exact ⟨0, Nat.zero_le _, rfl, by simp⟩
  case round =>
    obtain ⟨k, hk, rfl, hall⟩ := hrel
    have Hall := Lib.hid hall
    clear hall
    by_cases hlt : k < s.size
    · rcases hl : lowerB (s[k].toNat : Int) with _ | _
      · rcases hd : digitB (s[k].toNat : Int) with _ | _
        · rcases he : ((s[k].toNat : Int) == 45) with _ | _
          · have Hf := Lib.hid (nameB_bad s k hlt (by unfold nameC; rw [hl, hd, he]; rfl))
            have he2 : ((s[k].toNat : Int) != 45) = true := by simp only [bne, he]; rfl
            go_wp2_with (first | (go_at_call 192; refine (c_impl_isLower _ _).mono ?_; rintro e w' ⟨rfl, rfl⟩) | (go_at_call 193; refine (c_impl_isDigit _ _).mono ?_; rintro e w' ⟨rfl, rfl⟩))
            go_ret
            exact ⟨ret_bool Hf.out.symm, rfl⟩
          · have Hn := Lib.hid (all_take_succ s _ k hlt Hall.out (show nameC (s[k].toNat : Int) = true by unfold nameC; rw [he, Bool.or_true]))
            have he2 : ((s[k].toNat : Int) != 45) = false := by simp only [bne, he]; rfl
            go_wp2_with (first | (go_at_call 192; refine (c_impl_isLower _ _).mono ?_; rintro e w' ⟨rfl, rfl⟩) | (go_at_call 193; refine (c_impl_isDigit _ _).mono ?_; rintro e w' ⟨rfl, rfl⟩))
            go_round
            case rel => exact ⟨k + 1, by omega, by go_num, Hn.out⟩
            case measure => simp [intOf]; omega
        · have Hn := Lib.hid (all_take_succ s _ k hlt Hall.out (show nameC (s[k].toNat : Int) = true by unfold nameC; rw [hd, Bool.or_true, Bool.true_or]))
          go_wp2_with (first | (go_at_call 192; refine (c_impl_isLower _ _).mono ?_; rintro e w' ⟨rfl, rfl⟩) | (go_at_call 193; refine (c_impl_isDigit _ _).mono ?_; rintro e w' ⟨rfl, rfl⟩))
          go_round
          case rel => exact ⟨k + 1, by omega, by go_num, Hn.out⟩
          case measure => simp [intOf]; omega
      · have Hn := Lib.hid (all_take_succ s _ k hlt Hall.out (show nameC (s[k].toNat : Int) = true by unfold nameC; rw [hl]; rfl))
        go_wp2_with (first | (go_at_call 192; refine (c_impl_isLower _ _).mono ?_; rintro e w' ⟨rfl, rfl⟩) | (go_at_call 193; refine (c_impl_isDigit _ _).mono ?_; rintro e w' ⟨rfl, rfl⟩))
        go_round
        case rel => exact ⟨k + 1, by omega, by go_num, Hn.out⟩
        case measure => simp [intOf]; omega
    · obtain rfl : k = s.size := by omega
      rcases hi : inB (s.size : Int) 1 20 with _ | _
      · have Hf := Lib.hid (nameB_len hi)
        go_wp2_with (first | (go_at_call 109; refine (c_impl_within _ _ _ _).mono ?_; rintro e w' ⟨rfl, rfl⟩))
        go_ret
        exact ⟨ret_bool Hf.out.symm, rfl⟩
      · have h0 : 0 < s.size := by unfold inB at hi; simp at hi; omega
        have Hf := Lib.hid (nameB_of s hi h0 (by rw [← take_all_size]; exact Hall.out))
        go_wp2_with (first | (go_at_call 109; refine (c_impl_within _ _ _ _).mono ?_; rintro e w' ⟨rfl, rfl⟩))
        all_goals
          go_ret
          exact ⟨ret_bool (by rw [Hf.out] <;> simp_all), rfl⟩
theorem name_letter {c : Int} (h : letterB c = false) : (lowerB c || digitB c) = false := by
  unfold letterB at h; unfold lowerB digitB; simp at h ⊢; omega
theorem name_upper {c : Int} (h1 : 65 ≤ c) (h2 : c ≤ 90) : (lowerB c || digitB c) = false := by
  unfold lowerB digitB; simp; omega
theorem name_low {c : Int} (h : letterB c = true) (h1 : ¬ (65 ≤ c ∧ c ≤ 90)) : nameC c = true := by
  unfold letterB at h; unfold nameC lowerB digitB; simp at h ⊢; omega
theorem nameC_no {c : Int} (h : (lowerB c || digitB c) = false) (he : (c == 45) = false) : nameC c = false := by unfold nameC; rw [h, he]; rfl
theorem nameC_dash {c : Int} (he : (c == 45) = true) : nameC c = true := by unfold nameC; rw [he, Bool.or_true]
set_option maxHeartbeats 1000000 in
theorem c_spec_NameOk (s : ByteArray) (w : World) (h1 : s.size ≤ 9223372036854775807) : Calls Tryz.prog 86 #[.string s] w fun e w' => e = .returned (.bool (nameB s)) ∧ w = w' := by
  rcases hi : inB (s.size : Int) 1 20 with _ | _
  · have Hf := Lib.hid (nameB_len hi)
    go_enter Tryz.func86, Tryz.ntmps86
    go_wp2_with (first | (go_at_call 88; refine (c_spec_l01In _ _ _ _).mono ?_; rintro e w' ⟨rfl, rfl⟩))
    go_ret
    exact ⟨ret_bool Hf.out.symm, rfl⟩
  · have h0 : 0 < s.size := by unfold inB at hi; simp at hi; omega
    rcases hf : ((s[0].toNat : Int) == 45) with _ | _
    · rcases hg : (((s[s.size - 1]'(by omega)).toNat : Int) == 45) with _ | _
      · have Hz := Lib.hid (fun ha => nameB_of s hi h0 ha)
        have hf2 : ((s[0].toNat : Int) != 45) = true := by simp only [bne, hf]; rfl
        have hg2 : (((s[s.size - 1]'(by omega)).toNat : Int) != 45) = true := by simp only [bne, hg]; rfl
        go_enter Tryz.func86, Tryz.ntmps86
        go_wp2_with (first | (go_at_call 88; refine (c_spec_l01In _ _ _ _).mono ?_; rintro e w' ⟨rfl, rfl⟩))
        go_loop [3] (fun i => ∃ k : Nat, k ≤ s.size ∧ i = .int .i64 k ∧ (s.data.toList.take k).all (fun c => nameC (c.toNat : Int)) = true) (fun i => s.size - (intOf i).toNat)
        case atStart => exact ⟨0, Nat.zero_le _, rfl, by simp⟩
        case round =>
          obtain ⟨k, hk, rfl, hall⟩ := hrel
          have Hall := Lib.hid hall
          clear hall
          by_cases hlt : k < s.size
          · rcases he : ((s[k].toNat : Int) == 45) with _ | _
            · have he2 : ((s[k].toNat : Int) != 45) = true := by simp only [bne, he]; rfl
              rcases hl : letterB (s[k].toNat : Int) with _ | _
              · have Hf := Lib.hid (nameB_bad s k hlt (nameC_no (name_letter hl) he))
                go_wp2_with (first | (go_at_call 153; refine (c_spec_l14Letter _ _).mono ?_; rintro e w' ⟨rfl, rfl⟩))
                go_ret
                exact ⟨ret_bool Hf.out.symm, rfl⟩
              · by_cases ha : (65 : Int) ≤ s[k].toNat
                · by_cases hb : (s[k].toNat : Int) ≤ 90
                  · have Hf := Lib.hid (nameB_bad s k hlt (nameC_no (name_upper ha hb) he))
                    go_wp2_with (first | (go_at_call 153; refine (c_spec_l14Letter _ _).mono ?_; rintro e w' ⟨rfl, rfl⟩))
                    go_ret
                    exact ⟨ret_bool Hf.out.symm, rfl⟩
                  · have Hn := Lib.hid (all_take_succ s _ k hlt Hall.out (name_low hl (fun h => hb h.2)))
                    go_wp2_with (first | (go_at_call 153; refine (c_spec_l14Letter _ _).mono ?_; rintro e w' ⟨rfl, rfl⟩))
                    go_round
                    case rel => exact ⟨k + 1, by omega, by go_num, Hn.out⟩
                    case measure => simp [intOf]; omega
                · have Hn := Lib.hid (all_take_succ s _ k hlt Hall.out (name_low hl (fun h => ha h.1)))
                  go_wp2_with (first | (go_at_call 153; refine (c_spec_l14Letter _ _).mono ?_; rintro e w' ⟨rfl, rfl⟩))
                  go_round
                  case rel => exact ⟨k + 1, by omega, by go_num, Hn.out⟩
                  case measure => simp [intOf]; omega
            · have he2 : ((s[k].toNat : Int) != 45) = false := by simp only [bne, he]; rfl
              have Hn := Lib.hid (all_take_succ s _ k hlt Hall.out (nameC_dash he))
              go_wp2_with (first | (go_at_call 153; refine (c_spec_l14Letter _ _).mono ?_; rintro e w' ⟨rfl, rfl⟩))
              all_goals
                go_round
                case rel => exact ⟨k + 1, by omega, by go_num, Hn.out⟩
                case measure => simp [intOf]; omega
          · obtain rfl : k = s.size := by omega
            have Hf := Lib.hid (show nameB s = true by rw [Hz.out (by rw [← take_all_size]; exact Hall.out), hf2, hg2]; rfl)
            go_wp2_with fail
            go_ret
            exact ⟨ret_bool Hf.out.symm, rfl⟩
      · have Hf := Lib.hid (nameB_last s h0 (by simp only [bne, hg]; rfl))
        go_enter Tryz.func86, Tryz.ntmps86
        go_wp2_with (first | (go_at_call 88; refine (c_spec_l01In _ _ _ _).mono ?_; rintro e w' ⟨rfl, rfl⟩))
        go_ret
        exact ⟨ret_bool Hf.out.symm, rfl⟩
    · have Hf := Lib.hid (nameB_first s h0 (by simp only [bne, hf]; rfl))
      go_enter Tryz.func86, Tryz.ntmps86
      go_wp2_with (first | (go_at_call 88; refine (c_spec_l01In _ _ _ _).mono ?_; rintro e w' ⟨rfl, rfl⟩))
      go_ret
      exact ⟨ret_bool Hf.out.symm, rfl⟩
end Go.Proofs.YtmhlnbihppojmaaGreat
namespace Go.Proofs.YtmhlnbihppojmaaGreat
open Go.RowKit
def podB (d : Pod) : Bool := nameB d.name && labelsB d.labels && decide (0 ≤ d.cpu) && decide (0 ≤ d.mem) && inB d.rank 0 1000 && selB d.needs && tolsOkB d.tolerances
set_option maxHeartbeats 2000000 in
theorem c_spec_PodOk (d : Pod) (cs : List Value) (w : World) (lo : Nat) (hh : C_Pod lo w.heap.size w d cs) :
    Calls Tryz.prog 29 #[.agg cs.toArray] w fun e w' => e = .returned (.bool (podB d)) ∧ Below w.heap.size w w' := by
  obtain ⟨v1, v5, v6, rfl, a0, a1, a2, a3, a4, a5, a6⟩ := hh
  obtain ⟨A1, c1, rfl⟩ := a1.form
  obtain ⟨A5, c5, rfl⟩ := a5.form
  obtain ⟨A6, c6, rfl⟩ := a6.form
  unfold I64 at a2 a3 a4
  go_enter Tryz.func29, Tryz.ntmps29
  go_wp2_with (first | (go_at_call 86; refine (c_spec_NameOk _ _ (by omega)).mono ?_; rintro e w1 ⟨rfl, rfl⟩) | (go_at_call 87; refine (c_spec_LabelsOk _ _ _ _ (Sl_Label.now (by assumption) bel)).mono ?_; rintro e w1 ⟨rfl, hb⟩; (first | ((have tc0 := Cum.join hcu hb); (clear tc0); (try ((have tc := Cum.up hcu hb bel); (try clear hs3); (try clear hs2); (try clear hs1); (try clear hs0); (try clear hsz); (try clear hfz); (try clear hc); (clear hcu); (have hcu := tc); (clear tc); (obtain ⟨hc, hfz⟩ := bcell hcu.h); (have hsz := hcu.h.size); (try simp at hsz); (try have hs0 := lt_of_succ_le hsz); (try (have hs1 := lt_pred hsz; (try (have hs2 := lt_pred hs1; (try (have hs3 := lt_pred hs2)))))))); (try ((have tc := Cum.up hcuA hb bel); (try clear hs3A); (try clear hs2A); (try clear hs1A); (try clear hs0A); (try clear hszA); (try clear hfzA); (try clear hcA); (clear hcuA); (have hcuA := tc); (clear tc); (obtain ⟨hcA, hfzA⟩ := bcell hcuA.h); (have hszA := hcuA.h.size); (try simp at hszA); (try have hs0A := lt_of_succ_le hszA); (try (have hs1A := lt_pred hszA; (try (have hs2A := lt_pred hs1A; (try (have hs3A := lt_pred hs2A)))))))); (try ((have tc := Cum.up hcuB hb bel); (try clear hs3B); (try clear hs2B); (try clear hs1B); (try clear hs0B); (try clear hszB); (try clear hfzB); (try clear hcB); (clear hcuB); (have hcuB := tc); (clear tc); (obtain ⟨hcB, hfzB⟩ := bcell hcuB.h); (have hszB := hcuB.h.size); (try simp at hszB); (try have hs0B := lt_of_succ_le hszB); (try (have hs1B := lt_pred hszB; (try (have hs2B := lt_pred hs1B; (try (have hs3B := lt_pred hs2B)))))))); (try ((have tc := Cum.up hcuC hb bel); (try clear hs3C); (try clear hs2C); (try clear hs1C); (try clear hs0C); (try clear hszC); (try clear hfzC); (try clear hcC); (clear hcuC); (have hcuC := tc); (clear tc); (obtain ⟨hcC, hfzC⟩ := bcell hcuC.h); (have hszC := hcuC.h.size); (try simp at hszC); (try have hs0C := lt_of_succ_le hszC); (try (have hs1C := lt_pred hszC; (try (have hs2C := lt_pred hs1C; (try (have hs3C := lt_pred hs2C))))))))) | ((try ((have tc := Cum.up hcuB hb bel); (try clear hs3B); (try clear hs2B); (try clear hs1B); (try clear hs0B); (try clear hszB); (try clear hfzB); (try clear hcB); (clear hcuB); (have hcuC := tc); (clear tc); (obtain ⟨hcC, hfzC⟩ := bcell hcuC.h); (have hszC := hcuC.h.size); (try simp at hszC); (try have hs0C := lt_of_succ_le hszC); (try (have hs1C := lt_pred hszC; (try (have hs2C := lt_pred hs1C; (try (have hs3C := lt_pred hs2C)))))))); (try ((have tc := Cum.up hcuA hb bel); (try clear hs3A); (try clear hs2A); (try clear hs1A); (try clear hs0A); (try clear hszA); (try clear hfzA); (try clear hcA); (clear hcuA); (have hcuB := tc); (clear tc); (obtain ⟨hcB, hfzB⟩ := bcell hcuB.h); (have hszB := hcuB.h.size); (try simp at hszB); (try have hs0B := lt_of_succ_le hszB); (try (have hs1B := lt_pred hszB; (try (have hs2B := lt_pred hs1B; (try (have hs3B := lt_pred hs2B)))))))); (try ((have tc := Cum.up hcu hb bel); (try clear hs3); (try clear hs2); (try clear hs1); (try clear hs0); (try clear hsz); (try clear hfz); (try clear hc); (clear hcu); (have hcuA := tc); (clear tc); (obtain ⟨hcA, hfzA⟩ := bcell hcuA.h); (have hszA := hcuA.h.size); (try simp at hszA); (try have hs0A := lt_of_succ_le hszA); (try (have hs1A := lt_pred hszA; (try (have hs2A := lt_pred hs1A; (try (have hs3A := lt_pred hs2A)))))))); (have hcu := Cum.mk hb); (obtain ⟨hc, hfz⟩ := bcell hcu.h); (have hsz := hcu.h.size); (try simp at hsz); (try have hs0 := lt_of_succ_le hsz); (try (have hs1 := lt_pred hsz; (try (have hs2 := lt_pred hs1; (try (have hs3 := lt_pred hs2))))))))) | (go_at_call 49; refine (c_spec_SelectorOk _ _ _ _ (Sl_Need.now (by assumption) bel)).mono ?_; rintro e w1 ⟨rfl, hb⟩; (first | ((have tc0 := Cum.join hcu hb); (clear tc0); (try ((have tc := Cum.up hcu hb bel); (try clear hs3); (try clear hs2); (try clear hs1); (try clear hs0); (try clear hsz); (try clear hfz); (try clear hc); (clear hcu); (have hcu := tc); (clear tc); (obtain ⟨hc, hfz⟩ := bcell hcu.h); (have hsz := hcu.h.size); (try simp at hsz); (try have hs0 := lt_of_succ_le hsz); (try (have hs1 := lt_pred hsz; (try (have hs2 := lt_pred hs1; (try (have hs3 := lt_pred hs2)))))))); (try ((have tc := Cum.up hcuA hb bel); (try clear hs3A); (try clear hs2A); (try clear hs1A); (try clear hs0A); (try clear hszA); (try clear hfzA); (try clear hcA); (clear hcuA); (have hcuA := tc); (clear tc); (obtain ⟨hcA, hfzA⟩ := bcell hcuA.h); (have hszA := hcuA.h.size); (try simp at hszA); (try have hs0A := lt_of_succ_le hszA); (try (have hs1A := lt_pred hszA; (try (have hs2A := lt_pred hs1A; (try (have hs3A := lt_pred hs2A)))))))); (try ((have tc := Cum.up hcuB hb bel); (try clear hs3B); (try clear hs2B); (try clear hs1B); (try clear hs0B); (try clear hszB); (try clear hfzB); (try clear hcB); (clear hcuB); (have hcuB := tc); (clear tc); (obtain ⟨hcB, hfzB⟩ := bcell hcuB.h); (have hszB := hcuB.h.size); (try simp at hszB); (try have hs0B := lt_of_succ_le hszB); (try (have hs1B := lt_pred hszB; (try (have hs2B := lt_pred hs1B; (try (have hs3B := lt_pred hs2B)))))))); (try ((have tc := Cum.up hcuC hb bel); (try clear hs3C); (try clear hs2C); (try clear hs1C); (try clear hs0C); (try clear hszC); (try clear hfzC); (try clear hcC); (clear hcuC); (have hcuC := tc); (clear tc); (obtain ⟨hcC, hfzC⟩ := bcell hcuC.h); (have hszC := hcuC.h.size); (try simp at hszC); (try have hs0C := lt_of_succ_le hszC); (try (have hs1C := lt_pred hszC; (try (have hs2C := lt_pred hs1C; (try (have hs3C := lt_pred hs2C))))))))) | ((try ((have tc := Cum.up hcuB hb bel); (try clear hs3B); (try clear hs2B); (try clear hs1B); (try clear hs0B); (try clear hszB); (try clear hfzB); (try clear hcB); (clear hcuB); (have hcuC := tc); (clear tc); (obtain ⟨hcC, hfzC⟩ := bcell hcuC.h); (have hszC := hcuC.h.size); (try simp at hszC); (try have hs0C := lt_of_succ_le hszC); (try (have hs1C := lt_pred hszC; (try (have hs2C := lt_pred hs1C; (try (have hs3C := lt_pred hs2C)))))))); (try ((have tc := Cum.up hcuA hb bel); (try clear hs3A); (try clear hs2A); (try clear hs1A); (try clear hs0A); (try clear hszA); (try clear hfzA); (try clear hcA); (clear hcuA); (have hcuB := tc); (clear tc); (obtain ⟨hcB, hfzB⟩ := bcell hcuB.h); (have hszB := hcuB.h.size); (try simp at hszB); (try have hs0B := lt_of_succ_le hszB); (try (have hs1B := lt_pred hszB; (try (have hs2B := lt_pred hs1B; (try (have hs3B := lt_pred hs2B)))))))); (try ((have tc := Cum.up hcu hb bel); (try clear hs3); (try clear hs2); (try clear hs1); (try clear hs0); (try clear hsz); (try clear hfz); (try clear hc); (clear hcu); (have hcuA := tc); (clear tc); (obtain ⟨hcA, hfzA⟩ := bcell hcuA.h); (have hszA := hcuA.h.size); (try simp at hszA); (try have hs0A := lt_of_succ_le hszA); (try (have hs1A := lt_pred hszA; (try (have hs2A := lt_pred hs1A; (try (have hs3A := lt_pred hs2A)))))))); (have hcu := Cum.mk hb); (obtain ⟨hc, hfz⟩ := bcell hcu.h); (have hsz := hcu.h.size); (try simp at hsz); (try have hs0 := lt_of_succ_le hsz); (try (have hs1 := lt_pred hsz; (try (have hs2 := lt_pred hs1; (try (have hs3 := lt_pred hs2))))))))) | (go_at_call 89; refine (c_spec_TolerancesOk _ _ _ _ (Sl_Tolerance.now (by assumption) bel)).mono ?_; rintro e w1 ⟨rfl, hb⟩; (first | ((have tc0 := Cum.join hcu hb); (clear tc0); (try ((have tc := Cum.up hcu hb bel); (try clear hs3); (try clear hs2); (try clear hs1); (try clear hs0); (try clear hsz); (try clear hfz); (try clear hc); (clear hcu); (have hcu := tc); (clear tc); (obtain ⟨hc, hfz⟩ := bcell hcu.h); (have hsz := hcu.h.size); (try simp at hsz); (try have hs0 := lt_of_succ_le hsz); (try (have hs1 := lt_pred hsz; (try (have hs2 := lt_pred hs1; (try (have hs3 := lt_pred hs2)))))))); (try ((have tc := Cum.up hcuA hb bel); (try clear hs3A); (try clear hs2A); (try clear hs1A); (try clear hs0A); (try clear hszA); (try clear hfzA); (try clear hcA); (clear hcuA); (have hcuA := tc); (clear tc); (obtain ⟨hcA, hfzA⟩ := bcell hcuA.h); (have hszA := hcuA.h.size); (try simp at hszA); (try have hs0A := lt_of_succ_le hszA); (try (have hs1A := lt_pred hszA; (try (have hs2A := lt_pred hs1A; (try (have hs3A := lt_pred hs2A)))))))); (try ((have tc := Cum.up hcuB hb bel); (try clear hs3B); (try clear hs2B); (try clear hs1B); (try clear hs0B); (try clear hszB); (try clear hfzB); (try clear hcB); (clear hcuB); (have hcuB := tc); (clear tc); (obtain ⟨hcB, hfzB⟩ := bcell hcuB.h); (have hszB := hcuB.h.size); (try simp at hszB); (try have hs0B := lt_of_succ_le hszB); (try (have hs1B := lt_pred hszB; (try (have hs2B := lt_pred hs1B; (try (have hs3B := lt_pred hs2B)))))))); (try ((have tc := Cum.up hcuC hb bel); (try clear hs3C); (try clear hs2C); (try clear hs1C); (try clear hs0C); (try clear hszC); (try clear hfzC); (try clear hcC); (clear hcuC); (have hcuC := tc); (clear tc); (obtain ⟨hcC, hfzC⟩ := bcell hcuC.h); (have hszC := hcuC.h.size); (try simp at hszC); (try have hs0C := lt_of_succ_le hszC); (try (have hs1C := lt_pred hszC; (try (have hs2C := lt_pred hs1C; (try (have hs3C := lt_pred hs2C))))))))) | ((try ((have tc := Cum.up hcuB hb bel); (try clear hs3B); (try clear hs2B); (try clear hs1B); (try clear hs0B); (try clear hszB); (try clear hfzB); (try clear hcB); (clear hcuB); (have hcuC := tc); (clear tc); (obtain ⟨hcC, hfzC⟩ := bcell hcuC.h); (have hszC := hcuC.h.size); (try simp at hszC); (try have hs0C := lt_of_succ_le hszC); (try (have hs1C := lt_pred hszC; (try (have hs2C := lt_pred hs1C; (try (have hs3C := lt_pred hs2C)))))))); (try ((have tc := Cum.up hcuA hb bel); (try clear hs3A); (try clear hs2A); (try clear hs1A); (try clear hs0A); (try clear hszA); (try clear hfzA); (try clear hcA); (clear hcuA); (have hcuB := tc); (clear tc); (obtain ⟨hcB, hfzB⟩ := bcell hcuB.h); (have hszB := hcuB.h.size); (try simp at hszB); (try have hs0B := lt_of_succ_le hszB); (try (have hs1B := lt_pred hszB; (try (have hs2B := lt_pred hs1B; (try (have hs3B := lt_pred hs2B)))))))); (try ((have tc := Cum.up hcu hb bel); (try clear hs3); (try clear hs2); (try clear hs1); (try clear hs0); (try clear hsz); (try clear hfz); (try clear hc); (clear hcu); (have hcuA := tc); (clear tc); (obtain ⟨hcA, hfzA⟩ := bcell hcuA.h); (have hszA := hcuA.h.size); (try simp at hszA); (try have hs0A := lt_of_succ_le hszA); (try (have hs1A := lt_pred hszA; (try (have hs2A := lt_pred hs1A; (try (have hs3A := lt_pred hs2A)))))))); (have hcu := Cum.mk hb); (obtain ⟨hc, hfz⟩ := bcell hcu.h); (have hsz := hcu.h.size); (try simp at hsz); (try have hs0 := lt_of_succ_le hsz); (try (have hs1 := lt_pred hsz; (try (have hs2 := lt_pred hs1; (try (have hs3 := lt_pred hs2))))))))) | (go_at_call 88; refine (c_spec_l01In _ _ _ _).mono ?_; rintro e w' ⟨rfl, rfl⟩))
  all_goals
    go_ret
    exact ⟨ret_bool (by simp_all [podB] <;> omega), bel⟩
set_option maxHeartbeats 2000000 in
theorem c_impl_PodOk (d : Pod) (cs : List Value) (w : World) (lo : Nat) (hh : C_Pod lo w.heap.size w d cs) :
    Calls Tryz.prog 66 #[.agg cs.toArray] w fun e w' => e = .returned (.bool (podB d)) ∧ Below w.heap.size w w' := by
  obtain ⟨v1, v5, v6, rfl, a0, a1, a2, a3, a4, a5, a6⟩ := hh
  obtain ⟨A1, c1, rfl⟩ := a1.form
  obtain ⟨A5, c5, rfl⟩ := a5.form
  obtain ⟨A6, c6, rfl⟩ := a6.form
  unfold I64 at a2 a3 a4
  go_enter Tryz.func66, Tryz.ntmps66
  go_wp2_with (first | (go_at_call 130; refine (c_impl_NameOk _ _ (by omega)).mono ?_; rintro e w1 ⟨rfl, rfl⟩) | (go_at_call 124; refine (c_impl_LabelsOk _ _ _ _ (Sl_Label.now (by assumption) bel)).mono ?_; rintro e w1 ⟨rfl, hb⟩; (first | ((have tc0 := Cum.join hcu hb); (clear tc0); (try ((have tc := Cum.up hcu hb bel); (try clear hs3); (try clear hs2); (try clear hs1); (try clear hs0); (try clear hsz); (try clear hfz); (try clear hc); (clear hcu); (have hcu := tc); (clear tc); (obtain ⟨hc, hfz⟩ := bcell hcu.h); (have hsz := hcu.h.size); (try simp at hsz); (try have hs0 := lt_of_succ_le hsz); (try (have hs1 := lt_pred hsz; (try (have hs2 := lt_pred hs1; (try (have hs3 := lt_pred hs2)))))))); (try ((have tc := Cum.up hcuA hb bel); (try clear hs3A); (try clear hs2A); (try clear hs1A); (try clear hs0A); (try clear hszA); (try clear hfzA); (try clear hcA); (clear hcuA); (have hcuA := tc); (clear tc); (obtain ⟨hcA, hfzA⟩ := bcell hcuA.h); (have hszA := hcuA.h.size); (try simp at hszA); (try have hs0A := lt_of_succ_le hszA); (try (have hs1A := lt_pred hszA; (try (have hs2A := lt_pred hs1A; (try (have hs3A := lt_pred hs2A)))))))); (try ((have tc := Cum.up hcuB hb bel); (try clear hs3B); (try clear hs2B); (try clear hs1B); (try clear hs0B); (try clear hszB); (try clear hfzB); (try clear hcB); (clear hcuB); (have hcuB := tc); (clear tc); (obtain ⟨hcB, hfzB⟩ := bcell hcuB.h); (have hszB := hcuB.h.size); (try simp at hszB); (try have hs0B := lt_of_succ_le hszB); (try (have hs1B := lt_pred hszB; (try (have hs2B := lt_pred hs1B; (try (have hs3B := lt_pred hs2B)))))))); (try ((have tc := Cum.up hcuC hb bel); (try clear hs3C); (try clear hs2C); (try clear hs1C); (try clear hs0C); (try clear hszC); (try clear hfzC); (try clear hcC); (clear hcuC); (have hcuC := tc); (clear tc); (obtain ⟨hcC, hfzC⟩ := bcell hcuC.h); (have hszC := hcuC.h.size); (try simp at hszC); (try have hs0C := lt_of_succ_le hszC); (try (have hs1C := lt_pred hszC; (try (have hs2C := lt_pred hs1C; (try (have hs3C := lt_pred hs2C))))))))) | ((try ((have tc := Cum.up hcuB hb bel); (try clear hs3B); (try clear hs2B); (try clear hs1B); (try clear hs0B); (try clear hszB); (try clear hfzB); (try clear hcB); (clear hcuB); (have hcuC := tc); (clear tc); (obtain ⟨hcC, hfzC⟩ := bcell hcuC.h); (have hszC := hcuC.h.size); (try simp at hszC); (try have hs0C := lt_of_succ_le hszC); (try (have hs1C := lt_pred hszC; (try (have hs2C := lt_pred hs1C; (try (have hs3C := lt_pred hs2C)))))))); (try ((have tc := Cum.up hcuA hb bel); (try clear hs3A); (try clear hs2A); (try clear hs1A); (try clear hs0A); (try clear hszA); (try clear hfzA); (try clear hcA); (clear hcuA); (have hcuB := tc); (clear tc); (obtain ⟨hcB, hfzB⟩ := bcell hcuB.h); (have hszB := hcuB.h.size); (try simp at hszB); (try have hs0B := lt_of_succ_le hszB); (try (have hs1B := lt_pred hszB; (try (have hs2B := lt_pred hs1B; (try (have hs3B := lt_pred hs2B)))))))); (try ((have tc := Cum.up hcu hb bel); (try clear hs3); (try clear hs2); (try clear hs1); (try clear hs0); (try clear hsz); (try clear hfz); (try clear hc); (clear hcu); (have hcuA := tc); (clear tc); (obtain ⟨hcA, hfzA⟩ := bcell hcuA.h); (have hszA := hcuA.h.size); (try simp at hszA); (try have hs0A := lt_of_succ_le hszA); (try (have hs1A := lt_pred hszA; (try (have hs2A := lt_pred hs1A; (try (have hs3A := lt_pred hs2A)))))))); (have hcu := Cum.mk hb); (obtain ⟨hc, hfz⟩ := bcell hcu.h); (have hsz := hcu.h.size); (try simp at hsz); (try have hs0 := lt_of_succ_le hsz); (try (have hs1 := lt_pred hsz; (try (have hs2 := lt_pred hs1; (try (have hs3 := lt_pred hs2))))))))) | (go_at_call 13; refine (c_impl_SelectorOk _ _ _ _ (Sl_Need.now (by assumption) bel)).mono ?_; rintro e w1 ⟨rfl, hb⟩; (first | ((have tc0 := Cum.join hcu hb); (clear tc0); (try ((have tc := Cum.up hcu hb bel); (try clear hs3); (try clear hs2); (try clear hs1); (try clear hs0); (try clear hsz); (try clear hfz); (try clear hc); (clear hcu); (have hcu := tc); (clear tc); (obtain ⟨hc, hfz⟩ := bcell hcu.h); (have hsz := hcu.h.size); (try simp at hsz); (try have hs0 := lt_of_succ_le hsz); (try (have hs1 := lt_pred hsz; (try (have hs2 := lt_pred hs1; (try (have hs3 := lt_pred hs2)))))))); (try ((have tc := Cum.up hcuA hb bel); (try clear hs3A); (try clear hs2A); (try clear hs1A); (try clear hs0A); (try clear hszA); (try clear hfzA); (try clear hcA); (clear hcuA); (have hcuA := tc); (clear tc); (obtain ⟨hcA, hfzA⟩ := bcell hcuA.h); (have hszA := hcuA.h.size); (try simp at hszA); (try have hs0A := lt_of_succ_le hszA); (try (have hs1A := lt_pred hszA; (try (have hs2A := lt_pred hs1A; (try (have hs3A := lt_pred hs2A)))))))); (try ((have tc := Cum.up hcuB hb bel); (try clear hs3B); (try clear hs2B); (try clear hs1B); (try clear hs0B); (try clear hszB); (try clear hfzB); (try clear hcB); (clear hcuB); (have hcuB := tc); (clear tc); (obtain ⟨hcB, hfzB⟩ := bcell hcuB.h); (have hszB := hcuB.h.size); (try simp at hszB); (try have hs0B := lt_of_succ_le hszB); (try (have hs1B := lt_pred hszB; (try (have hs2B := lt_pred hs1B; (try (have hs3B := lt_pred hs2B)))))))); (try ((have tc := Cum.up hcuC hb bel); (try clear hs3C); (try clear hs2C); (try clear hs1C); (try clear hs0C); (try clear hszC); (try clear hfzC); (try clear hcC); (clear hcuC); (have hcuC := tc); (clear tc); (obtain ⟨hcC, hfzC⟩ := bcell hcuC.h); (have hszC := hcuC.h.size); (try simp at hszC); (try have hs0C := lt_of_succ_le hszC); (try (have hs1C := lt_pred hszC; (try (have hs2C := lt_pred hs1C; (try (have hs3C := lt_pred hs2C))))))))) | ((try ((have tc := Cum.up hcuB hb bel); (try clear hs3B); (try clear hs2B); (try clear hs1B); (try clear hs0B); (try clear hszB); (try clear hfzB); (try clear hcB); (clear hcuB); (have hcuC := tc); (clear tc); (obtain ⟨hcC, hfzC⟩ := bcell hcuC.h); (have hszC := hcuC.h.size); (try simp at hszC); (try have hs0C := lt_of_succ_le hszC); (try (have hs1C := lt_pred hszC; (try (have hs2C := lt_pred hs1C; (try (have hs3C := lt_pred hs2C)))))))); (try ((have tc := Cum.up hcuA hb bel); (try clear hs3A); (try clear hs2A); (try clear hs1A); (try clear hs0A); (try clear hszA); (try clear hfzA); (try clear hcA); (clear hcuA); (have hcuB := tc); (clear tc); (obtain ⟨hcB, hfzB⟩ := bcell hcuB.h); (have hszB := hcuB.h.size); (try simp at hszB); (try have hs0B := lt_of_succ_le hszB); (try (have hs1B := lt_pred hszB; (try (have hs2B := lt_pred hs1B; (try (have hs3B := lt_pred hs2B)))))))); (try ((have tc := Cum.up hcu hb bel); (try clear hs3); (try clear hs2); (try clear hs1); (try clear hs0); (try clear hsz); (try clear hfz); (try clear hc); (clear hcu); (have hcuA := tc); (clear tc); (obtain ⟨hcA, hfzA⟩ := bcell hcuA.h); (have hszA := hcuA.h.size); (try simp at hszA); (try have hs0A := lt_of_succ_le hszA); (try (have hs1A := lt_pred hszA; (try (have hs2A := lt_pred hs1A; (try (have hs3A := lt_pred hs2A)))))))); (have hcu := Cum.mk hb); (obtain ⟨hc, hfz⟩ := bcell hcu.h); (have hsz := hcu.h.size); (try simp at hsz); (try have hs0 := lt_of_succ_le hsz); (try (have hs1 := lt_pred hsz; (try (have hs2 := lt_pred hs1; (try (have hs3 := lt_pred hs2))))))))) | (go_at_call 129; refine (c_impl_TolerancesOk _ _ _ _ (Sl_Tolerance.now (by assumption) bel)).mono ?_; rintro e w1 ⟨rfl, hb⟩; (first | ((have tc0 := Cum.join hcu hb); (clear tc0); (try ((have tc := Cum.up hcu hb bel); (try clear hs3); (try clear hs2); (try clear hs1); (try clear hs0); (try clear hsz); (try clear hfz); (try clear hc); (clear hcu); (have hcu := tc); (clear tc); (obtain ⟨hc, hfz⟩ := bcell hcu.h); (have hsz := hcu.h.size); (try simp at hsz); (try have hs0 := lt_of_succ_le hsz); (try (have hs1 := lt_pred hsz; (try (have hs2 := lt_pred hs1; (try (have hs3 := lt_pred hs2)))))))); (try ((have tc := Cum.up hcuA hb bel); (try clear hs3A); (try clear hs2A); (try clear hs1A); (try clear hs0A); (try clear hszA); (try clear hfzA); (try clear hcA); (clear hcuA); (have hcuA := tc); (clear tc); (obtain ⟨hcA, hfzA⟩ := bcell hcuA.h); (have hszA := hcuA.h.size); (try simp at hszA); (try have hs0A := lt_of_succ_le hszA); (try (have hs1A := lt_pred hszA; (try (have hs2A := lt_pred hs1A; (try (have hs3A := lt_pred hs2A)))))))); (try ((have tc := Cum.up hcuB hb bel); (try clear hs3B); (try clear hs2B); (try clear hs1B); (try clear hs0B); (try clear hszB); (try clear hfzB); (try clear hcB); (clear hcuB); (have hcuB := tc); (clear tc); (obtain ⟨hcB, hfzB⟩ := bcell hcuB.h); (have hszB := hcuB.h.size); (try simp at hszB); (try have hs0B := lt_of_succ_le hszB); (try (have hs1B := lt_pred hszB; (try (have hs2B := lt_pred hs1B; (try (have hs3B := lt_pred hs2B)))))))); (try ((have tc := Cum.up hcuC hb bel); (try clear hs3C); (try clear hs2C); (try clear hs1C); (try clear hs0C); (try clear hszC); (try clear hfzC); (try clear hcC); (clear hcuC); (have hcuC := tc); (clear tc); (obtain ⟨hcC, hfzC⟩ := bcell hcuC.h); (have hszC := hcuC.h.size); (try simp at hszC); (try have hs0C := lt_of_succ_le hszC); (try (have hs1C := lt_pred hszC; (try (have hs2C := lt_pred hs1C; (try (have hs3C := lt_pred hs2C))))))))) | ((try ((have tc := Cum.up hcuB hb bel); (try clear hs3B); (try clear hs2B); (try clear hs1B); (try clear hs0B); (try clear hszB); (try clear hfzB); (try clear hcB); (clear hcuB); (have hcuC := tc); (clear tc); (obtain ⟨hcC, hfzC⟩ := bcell hcuC.h); (have hszC := hcuC.h.size); (try simp at hszC); (try have hs0C := lt_of_succ_le hszC); (try (have hs1C := lt_pred hszC; (try (have hs2C := lt_pred hs1C; (try (have hs3C := lt_pred hs2C)))))))); (try ((have tc := Cum.up hcuA hb bel); (try clear hs3A); (try clear hs2A); (try clear hs1A); (try clear hs0A); (try clear hszA); (try clear hfzA); (try clear hcA); (clear hcuA); (have hcuB := tc); (clear tc); (obtain ⟨hcB, hfzB⟩ := bcell hcuB.h); (have hszB := hcuB.h.size); (try simp at hszB); (try have hs0B := lt_of_succ_le hszB); (try (have hs1B := lt_pred hszB; (try (have hs2B := lt_pred hs1B; (try (have hs3B := lt_pred hs2B)))))))); (try ((have tc := Cum.up hcu hb bel); (try clear hs3); (try clear hs2); (try clear hs1); (try clear hs0); (try clear hsz); (try clear hfz); (try clear hc); (clear hcu); (have hcuA := tc); (clear tc); (obtain ⟨hcA, hfzA⟩ := bcell hcuA.h); (have hszA := hcuA.h.size); (try simp at hszA); (try have hs0A := lt_of_succ_le hszA); (try (have hs1A := lt_pred hszA; (try (have hs2A := lt_pred hs1A; (try (have hs3A := lt_pred hs2A)))))))); (have hcu := Cum.mk hb); (obtain ⟨hc, hfz⟩ := bcell hcu.h); (have hsz := hcu.h.size); (try simp at hsz); (try have hs0 := lt_of_succ_le hsz); (try (have hs1 := lt_pred hsz; (try (have hs2 := lt_pred hs1; (try (have hs3 := lt_pred hs2))))))))) | (go_at_call 109; refine (c_impl_within _ _ _ _).mono ?_; rintro e w' ⟨rfl, rfl⟩))
  all_goals
    go_ret
    exact ⟨ret_bool (by simp_all [podB] <;> omega), bel⟩
end Go.Proofs.YtmhlnbihppojmaaGreat
namespace Go.Proofs.YtmhlnbihppojmaaGreat
open Go.RowKit
abbrev Own_Label (S : Nat → Prop) (w : World) (l : List Label) (v : Value) : Prop := OwnR C_Label 2 98 S w l v
def mkLabel (k : Int) : Label := ⟨mkI (k), mkI (k + 1)⟩
/-- The members of l bear the marks from k on. -/
def MkLabels (k : Int) (l : List Label) : Prop := ∀ (i : Nat) (d : Label), l[i]? = some d → d = mkLabel (k + 2 * i)
theorem c_laws_toLabelSO (l : List Label) (v : Value) (w : World) (lo : Nat) (hs : Sl_Label lo w.heap.size w l v) (hn : l.length ≤ 1048576) :
    Calls Tryz.prog 61 #[v] w fun e w' => ∃ A c, e = .returned (.slice A l.length c) ∧ Own_Label (fun b => w.heap.size ≤ b ∧ b < w'.heap.size) w' l (.slice A l.length c) ∧ Below w.heap.size w w' := by
  obtain ⟨A, c, rfl, hlc, hc, hA⟩ := hs
  have hmk := run_make_slice (P := Tryz.prog) (z := .agg #[.string ⟨#[]⟩, .string ⟨#[]⟩]) (size := 2) (bytes := 32) Tryz.underlying41 (by kernel_rfl) l.length (by omega) (by omega)
  go_enter Tryz.func61, Tryz.ntmps61
  go_wp2_with fail
  go_loopw [4] (fun i wr => ∃ (k : Nat) (cs : Array Value), k ≤ l.length ∧ i = .int .i64 k ∧ Below w.heap.size w wr ∧ wr.heap[w.heap.size]? = some (.cells cs 98 (0, 0)) ∧ Part (C_Label) 2 l k cs) (fun i _ => l.length - (intOf i).toNat)
  case atStart => exact ⟨0, _, Nat.zero_le _, rfl, bel, heap_alloc_new _ _, Part.zero (by simp [size_madeCells])⟩
  case round =>
    obtain ⟨k, cs, hk, rfl, hbr, hg, hp⟩ := hrel
    by_cases hlt : k < l.length
    · obtain ⟨b, o, rfl, -, hb2, hcell⟩ := hA (by omega)
      obtain ⟨d, hd⟩ := exists_at hlt
      obtain ⟨es, -, hcs, hC⟩ := hcell k d hd
      have hC' := hC
      obtain ⟨rfl, ea0, ea1⟩ := hC'
      have hc0 := (hbr.cell (p := ⟨b, o + k * 2 + 0, none⟩) (by simp; omega)).trans (hcs 0 (by omega))
      simp at hc0
      have hc1 := (hbr.cell (p := ⟨b, o + k * 2 + 1, none⟩) (by simp; omega)).trans (hcs 1 (by omega))
      simp at hc1
      obtain ⟨x0, hx0⟩ := row_cell hg (o := k * 2 + 0) (by rw [hp.1]; omega)
      have hf0 := frozen_row hg (k * 2 + 0)
      rw [Nat.add_zero] at hx0 hf0
      obtain ⟨x1, hx1⟩ := row_cell hg (o := k * 2 + 1) (by rw [hp.1]; omega)
      have hf1 := frozen_row hg (k * 2 + 1)
      have hgl := row_lt hg
      clear hcs hcell hA
      go_wp2_with (go_at_call 118; refine (c_laws_toLabel d _ _ hC).mono ?_; rintro e w1 ⟨rfl, hb⟩; (first | (have hcu2 := Cum.join hcu hb; (try clear hcu); (try clear hc); (try clear hfz); (try clear hsz); (try clear hs0); (try clear hs1); (try clear hs2); (try clear hs3); (try clear hs4); ) | have hcu2 := Cum.mk hb); have hcu := hcu2; clear hcu2; obtain ⟨hc, hfz⟩ := bcell hcu.h; have hsz := hcu.h.size; (try simp at hsz); (try have hs0 := lt_of_succ_le hsz); (try (have hs1 := lt_pred hsz; (try (have hs2 := lt_pred hs1; (try (have hs3 := lt_pred hs2; (try have hs4 := lt_pred hs3))))))))
      go_roundw
      case rel => exact ⟨k + 1, putAt cs (k * 2) [.string d.key, .string d.value], by omega, by go_num, bel, heap_putCells [.string d.key, .string d.value] _ _ _ _ _ ((hb.block _ hgl).trans hg), hp.store hd rfl hC⟩
      case measure => simp [intOf]; omega
    · obtain rfl : k = l.length := by omega
      clear hA
      go_wp2_with fail
      go_ret
      exact ⟨_, _, rfl, OwnR.of_part hp hg ⟨Nat.le_refl _, row_lt hg⟩ (Nat.le_refl _) (by omega), bel⟩
set_option maxHeartbeats 1000000 in
theorem c_laws_markLabelS (l : List Label) (v : Value) (x : Int) (w : World) (S : Nat → Prop) (h : Own_Label S w l v) (hSb : ∀ b, S b → b < w.heap.size) (h1 : 0 < x) (h2 : x + 2 * l.length ≤ 1152921504606846976) :
    Calls Tryz.prog 71 #[v, .int .i64 x] w fun e w' => ∃ l', e = .returned (.int .i64 (x + 2 * l.length)) ∧ l'.length = l.length ∧ Own_Label S w' l' v ∧ MkLabels x l' ∧ Aside S w w' := by
  obtain ⟨A, c, rfl, hlc, hc, hA⟩ := h
  by_cases hz : l.length = 0
  · obtain rfl : l = [] := List.eq_nil_of_length_eq_zero hz
    clear hA
    go_enter Tryz.func71, Tryz.ntmps71
    go_wp2_with fail
    go_loopw [1, 5] (fun y i wr => y = .int .i64 x ∧ i = .int .i64 0 ∧ wr = w) (fun _ _ _ => 0)
    case atStart => exact ⟨rfl, rfl, rfl⟩
    case round =>
      obtain ⟨rfl, rfl, rfl⟩ := hrel
      go_wp2_with fail
      go_ret
      exact ⟨[], ret_int (by simp), rfl, ⟨A, c, rfl, by simp, hc, fun h => by simp at h⟩, fun i s h => by simp at h, Aside.refl _ _⟩
  · obtain ⟨g, cur, rfl, hg, hr, hcur⟩ := hA (by omega)
    have hgl := hSb g hg
    go_enter Tryz.func71, Tryz.ntmps71
    go_wp2_with fail
    go_loopw [1, 5] (fun y i wr => ∃ (k : Nat) (l' : List Label) (cur' : Array Value), k ≤ l.length ∧ l'.length = l.length ∧ i = .int .i64 k ∧ y = .int .i64 (x + 2 * k) ∧ wr.heap[g]? = some (.cells cur' 98 (0, 0)) ∧ RowAt C_Label 2 cur' l' ∧ (∀ (j : Nat) (d : Label), j < k → l'[j]? = some d → d = mkLabel (x + 2 * j)) ∧ Aside S w wr) (fun _ i _ => l.length - (intOf i).toNat)
    case atStart => exact ⟨0, l, cur, Nat.zero_le _, rfl, rfl, by simp, hr, hcur, fun j s h => by omega, Aside.refl _ _⟩
    case round =>
      obtain ⟨k, l', cur', hk, hl', rfl, rfl, hr', hcur', hmk, has⟩ := hrel
      have Hm := Lib.hid hmk
      have Hc := Lib.hid hcur'
      clear hmk hcur hA
      by_cases hlt : k < l.length
      · obtain ⟨d, hd⟩ := exists_at (l := l') (k := k) (by omega)
        have hsz := hcur'.size hd (by decide)
        have hC0 := hcur' k d hd
        unfold C_Label at hC0
        obtain ⟨es, -, hes, hC⟩ := hC0
        obtain ⟨rfl, -⟩ := hC
        obtain ⟨y, hy⟩ : ∃ y : Int, y = x + 2 * k := ⟨_, rfl⟩
        have hy0 : 0 < y := by omega
        have hy1 : y + 2 ≤ 1152921504606846976 := by omega
        have Hy := Lib.hid hy
        rw [← hy]
        have hgw := row_lt hr'
        have hk1 : (k : Int) < l.length := by omega
        have hk0 : (0 : Int) ≤ k := by omega
        have Hes := Lib.hid hes
        have Hd := Lib.hid hd
        clear hy hcur' hes hd
        go_wp2_with fail
        refine (c_laws_markText _ _ (by omega) (by omega)).mono ?_
        rintro e w1 ⟨rfl, hb1⟩
        have r1 := (hb1.block g (by first | exact hgw | (simp; omega))).trans (hr')
        have x0 : w1.cell? ⟨g, k * 2, none⟩ = some (.string d.key) := by rw [cell_of_row w1 g _ _ _ _ r1]; exact Hes.out 0 (by decide)
        have f0 := frozen_row r1 (k * 2)
        have x1 : w1.cell? ⟨g, k * 2 + 1, none⟩ = some (.string d.value) := by rw [cell_of_row w1 g _ _ _ _ r1]; exact Hes.out 1 (by decide)
        have f1 := frozen_row r1 (k * 2 + 1)
        have hgw := row_lt r1
        have hs1 := hb1.size
        go_wp2_with fail
        refine (c_laws_markText _ _ (by omega) (by omega)).mono ?_
        rintro e w2 ⟨rfl, hb2⟩
        have r2 := (hb2.block g (by first | exact hgw | (simp; omega))).trans (heap_setCell_same _ g (k * 2) _ _ _ (r1))
        clear x0 f0 x1 f1
        have x1 : w2.cell? ⟨g, k * 2 + 1, none⟩ = some (.string d.value) := by rw [cell_of_row w2 g _ _ _ _ r2, Array.getElem?_setIfInBounds_ne (by omega)]; exact Hes.out 1 (by decide)
        have f1 := frozen_row r2 (k * 2 + 1)
        have hgw := row_lt r2
        have hs2 := hb2.size
        go_wp2_with fail
        go_roundw
        case rel =>
          have hI : ∀ z : Int, 0 < z → z ≤ 4611686018427387904 → I64 z := fun z h h' => ⟨by omega, by omega⟩
          refine ⟨k + 1, l'.set k (mkLabel y), putAt cur' (k * 2) [.string (mkI (y)), .string (mkI (y + 1))], by omega, by simp [hl'], by go_num, ?_, heap_setCell_same _ g (k * 2 + 1) _ _ _ (r2), Hc.out.set rfl ?_ hsz, fun j s hj h => ?_, ?_⟩
          · exact congrArg (Value.int .i64) (by have := Hy.out; omega)
          · exact ⟨rfl, mkI_size _ (by omega), mkI_size _ (by omega)⟩
          · rw [List.getElem?_set] at h
            by_cases he : k = j
            · subst he
              rw [if_pos rfl, if_pos (by omega)] at h
              obtain rfl := Option.some.inj h
              rw [← Hy.out]
            · rw [if_neg he] at h
              exact Hm.out j s (by omega) h
          · refine has.trans ?_
            exact Aside.setCell (Aside.trans (Aside.setCell (Aside.trans (Aside.refl _ _) (Aside.of_below hb1)) hg) (Aside.of_below hb2)) hg
        case measure => simp [intOf]; omega
      · obtain rfl : k = l.length := by omega
        go_wp2_with fail
        go_ret
        exact ⟨l', rfl, hl', ⟨_, c, by rw [hl'], by omega, hc, fun _ => ⟨g, cur', rfl, hg, hr', Hc.out⟩⟩, fun i s h => Hm.out i s (by have := (List.getElem?_eq_some_iff.1 h).1; omega) h, has⟩
end Go.Proofs.YtmhlnbihppojmaaGreat
