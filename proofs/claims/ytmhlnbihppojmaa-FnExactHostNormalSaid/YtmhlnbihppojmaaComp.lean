/- slices.Compact of taints and of tolerances, over a row of the call's own. No conditions. Written by wip/tools/gencomp.py. -/
import Derived.Test.YtmhlnbihppojmaaCompE
import Derived.Test.YtmhlnbihppojmaaCloneT
import Derived.Test.YtmhlnbihppojmaaTot
import Derived.Test.YtmhlnbihppojmaaDet
namespace Go.Proofs.Ytmhlnbihppojmaa
open Go.RowKit

set_option maxHeartbeats 4000000 in
set_option maxRecDepth 10000 in
theorem c_Compact_Taint (l : List Taint) (v : Value) (base : Nat) (w : World) (h : RowE encT 3 45 base w l v) (hn : l.length ≤ 1048576) :
    Calls Try.prog 49 #[v] w fun e w' => ∃ A c, e = .returned (.slice A (compB eqT l).length c) ∧ RowE encT 3 45 base w' (compB eqT l) (.slice A (compB eqT l).length c) ∧ Aside (fun b => v.ownBlock = some b) w w' := by
  have HE := Lib.hid tot_T.eq
  have H := Lib.hid h
  by_cases h2 : l.length < 2
  · obtain ⟨A, c, rfl⟩ := h.form
    have HS := Lib.hid (compB_short eqT h2)
    have h2i : (l.length : Int) < 2 := by omega
    clear h
    go_enter Try.func49, Try.ntmps49
    go_wp2_with fail
    go_ret
    exact ⟨A, c, by rw [HS.out]; rfl, by rw [HS.out]; exact H.out, Aside.refl _ _⟩
  · obtain ⟨g, cap, cur, rfl, -, hg, hlc, hc63, -, -⟩ := h.row encT_len (by omega)
    have hgl := row_lt hg
    have h2i : ¬ (l.length : Int) < 2 := by omega
    clear h hg
    go_enter Try.func49, Try.ntmps49
    go_wp2_with fail
    go_loopw [3] (fun s3 wr => ∃ k : Nat, 1 ≤ k ∧ k ≤ l.length ∧ s3 = .int .i64 k ∧ Below w.heap.size w wr ∧ FixB eqT l k) (fun s3 _ => l.length - (intOf s3).toNat)
    case atStart => exact ⟨1, Nat.le_refl _, by omega, rfl, Below.refl _ _, compB_short eqT (by rw [List.length_take]; omega)⟩
    case round =>
      obtain ⟨k, hk1, hk, rfl, hbw, hfix⟩ := hrel
      by_cases hlt : k < l.length
      · obtain ⟨-, -, -, -, cur, hg, -, hrow⟩ := (H.out.below hbw).at encT_len
        obtain ⟨x, hx⟩ := exists_at hlt
        obtain ⟨y, hy⟩ := exists_at (show k - 1 < l.length by omega)
        have hx0 : wr.cell? ⟨g, k * 3, none⟩ = some (.string x.key) := by rw [cell_of_row _ g _ cur _ _ hg]; exact hrow k x hx 0 (by decide)
        have hx1 : wr.cell? ⟨g, k * 3 + 1, none⟩ = some (.string x.value) := by rw [cell_of_row _ g _ cur _ _ hg]; exact hrow k x hx 1 (by decide)
        have hx2 : wr.cell? ⟨g, k * 3 + 2, none⟩ = some (.int .i64 x.effect) := by rw [cell_of_row _ g _ cur _ _ hg]; exact hrow k x hx 2 (by decide)
        have hy0 : wr.cell? ⟨g, (k - 1) * 3, none⟩ = some (.string y.key) := by rw [cell_of_row _ g _ cur _ _ hg]; exact hrow (k - 1) y hy 0 (by decide)
        have hy1 : wr.cell? ⟨g, (k - 1) * 3 + 1, none⟩ = some (.string y.value) := by rw [cell_of_row _ g _ cur _ _ hg]; exact hrow (k - 1) y hy 1 (by decide)
        have hy2 : wr.cell? ⟨g, (k - 1) * 3 + 2, none⟩ = some (.int .i64 y.effect) := by rw [cell_of_row _ g _ cur _ _ hg]; exact hrow (k - 1) y hy 2 (by decide)
        have hgl2 := row_lt hg
        have hk0 : (0 : Int) ≤ k := by omega
        have hk1' : (1 : Int) ≤ k := by omega
        have hk2 : (k : Int) < l.length := by omega
        have hk3 : (k : Int) - 1 < l.length := by omega
        have hkc : (k : Int) ≤ cap := by omega
        have Hx := Lib.hid hx
        have Hy := Lib.hid hy
        clear hx hy hrow hg
        go_wp2_with fail
        rcases q1 : (x.key.toList == y.key.toList) with _ | _
        all_goals rcases q2 : (x.value.toList == y.value.toList) with _ | _
        all_goals rcases q3 : (x.effect == y.effect) with _ | _
        all_goals have q9 : eqT x y = ((x.key.toList == y.key.toList) && ((x.value.toList == y.value.toList) && (x.effect == y.effect))) := rfl
        all_goals rw [q1, q2, q3] at q9
        all_goals
          refine wp_region_det 10 (by kernel_rfl) (by kernel_rfl) (by decide) ?_
          apply Exists.intro
          refine And.intro ?_ ?_
          · (intro W hW; (try simp only [Act.put, List.setIfInBounds_toArray, List.set_cons_zero, List.set_cons_succ]); first | (go_wp2_with fail; exact ⟨rfl, rfl, Below.refl _ _⟩))
          apply Exists.intro
          refine And.intro ?_ ?_
          · (intro W hW; (try simp only [Act.put, List.setIfInBounds_toArray, List.set_cons_zero, List.set_cons_succ]); first | (go_wp2_with fail; exact ⟨rfl, rfl, Below.refl _ _⟩))
          apply Exists.intro
          refine And.intro ?_ ?_
          · (intro W hW; (try simp only [Act.put, List.setIfInBounds_toArray, List.set_cons_zero, List.set_cons_succ]); first | (go_wp2_with fail; exact ⟨rfl, rfl, Below.refl _ _⟩))
          apply Exists.intro
          refine And.intro ?_ ?_
          · (intro W hW; (try simp only [Act.put, List.setIfInBounds_toArray, List.set_cons_zero, List.set_cons_succ]); first | (obtain ⟨hcW, hfW⟩ := bcell hW; have hsW := hW.size; (try simp at hsW); (try have hsW0 := lt_of_succ_le hsW); (try (have hsW1 := lt_pred hsW; (try (have hsW2 := lt_pred hsW1)))); go_wp2_with fail; exact ⟨rfl, rfl, Below.refl _ _⟩))
          apply Exists.intro
          refine And.intro ?_ ?_
          · (intro W hW; (try simp only [Act.put, List.setIfInBounds_toArray, List.set_cons_zero, List.set_cons_succ]); first | (go_wp2_with fail; exact ⟨rfl, rfl, Below.refl _ _⟩))
          apply Exists.intro
          refine And.intro ?_ ?_
          · (intro W hW; (try simp only [Act.put, List.setIfInBounds_toArray, List.set_cons_zero, List.set_cons_succ]); first | (go_wp2_with fail; exact ⟨rfl, rfl, Below.refl _ _⟩))
          apply Exists.intro
          refine And.intro ?_ ?_
          · (intro W hW; (try simp only [Act.put, List.setIfInBounds_toArray, List.set_cons_zero, List.set_cons_succ]); first | (go_wp2_with fail; exact ⟨rfl, rfl, Below.refl _ _⟩))
          apply Exists.intro
          refine And.intro ?_ ?_
          · (intro W hW; (try simp only [Act.put, List.setIfInBounds_toArray, List.set_cons_zero, List.set_cons_succ]); first | (go_wp2_with fail; exact ⟨rfl, rfl, Below.refl _ _⟩))
          apply Exists.intro
          refine And.intro ?_ ?_
          · (intro W hW; (try simp only [Act.put, List.setIfInBounds_toArray, List.set_cons_zero, List.set_cons_succ]); first | (obtain ⟨hcW, hfW⟩ := bcell hW; have hsW := hW.size; (try simp at hsW); (try have hsW0 := lt_of_succ_le hsW); (try (have hsW1 := lt_pred hsW; (try (have hsW2 := lt_pred hsW1)))); go_wp2_with fail; exact ⟨rfl, rfl, Below.refl _ _⟩))
          apply Exists.intro
          refine And.intro ?_ ?_
          · (intro W hW; (try simp only [Act.put, List.setIfInBounds_toArray, List.set_cons_zero, List.set_cons_succ]); first | (go_wp2_with fail; exact ⟨rfl, rfl, Below.refl _ _⟩))
          intro w1 hb
          (first | (have hcu2 := Cum.join hcu hb; (try clear hcu); (try clear hc); (try clear hfz); (try clear hsz); (try clear hs0); (try clear hs1); (try clear hs2); (try clear hs3); (try clear hs4); ) | have hcu2 := Cum.mk hb); have hcu := hcu2; clear hcu2; obtain ⟨hc, hfz⟩ := bcell hcu.h; have hsz := hcu.h.size; (try simp at hsz); (try have hs0 := lt_of_succ_le hsz); (try (have hs1 := lt_pred hsz; (try (have hs2 := lt_pred hs1; (try (have hs3 := lt_pred hs2; (try have hs4 := lt_pred hs3)))))))
          (try simp only [Act.put, List.setIfInBounds_toArray, List.set_cons_zero, List.set_cons_succ])
          (try simp only [List.drop_succ_cons, List.drop_nil])
          have Bq := hbw.trans (hb.mono hbw.size)
          first
            | (have hne : eqT x y = false := q9
               have Hf := Lib.hid (show FixB eqT l (k + 1) by unfold FixB; unfold FixB at hfix; rw [compB_take HE.out hk1 Hy.out Hx.out, hne, hfix, List.take_add_one, Hx.out]; rfl)
               go_wp2_with fail
               go_roundw
               case rel => exact ⟨k + 1, by omega, by omega, by go_num, Bq, Hf.out⟩
               case measure => simp [intOf]; omega)
            | skip
        have hI0 := Lib.hid (CompL.start HE.out hk1 Hy.out Hx.out hfix q9)
        have HRow := Lib.hid (H.out.below Bq)
        have HAs : Aside (fun b => b = g) w w1 := Aside.of_below Bq
        clear q9 q1 q2 q3
        go_wp2_with fail
        go_loopw [3, 5] (fun s3 s5 wr => ∃ (kk k2 : Nat) (L : List Taint), s3 = .int .i64 kk ∧ s5 = .int .i64 k2 ∧ 1 ≤ k2 ∧ k + k2 ≤ l.length ∧ CompL eqT l (k + k2) kk L ∧ RowE encT 3 45 base wr L (.slice (some ⟨g, 0, none⟩) l.length cap) ∧ Aside (fun b => b = g) w wr) (fun _ s5 _ => l.length - k - (intOf s5).toNat)
        case atStart => exact ⟨k, 1, l, rfl, rfl, Nat.le_refl _, by omega, hI0.out, HRow.out, HAs⟩
        case round =>
          obtain ⟨kk, k2, L, rfl, rfl, h1, hle, hI, hRw, hAs⟩ := hrel
          have hkk := hI.lt
          have HI := Lib.hid hI
          have HR2 := Lib.hid hRw
          have hLl := Lib.hid hI.size
          obtain ⟨-, -, -, -, cur, hg, hcs, hrow⟩ := hRw.at encT_len
          have hfz : ∀ o, wr.frozen? ⟨g, o, none⟩ = false := fun o => frozen_row hg o
          have hgl3 := row_lt hg
          by_cases hlt2 : k + k2 < l.length
          · obtain ⟨x, hx⟩ := exists_at hlt2
            obtain ⟨y, hy⟩ := exists_at (show k + k2 - 1 < l.length by omega)
            obtain ⟨z, hz⟩ := exists_at (show kk < l.length by omega)
            have hxL := (hI.high (k + k2) (by omega)).trans hx
            have hyL := (hI.high (k + k2 - 1) (by omega)).trans hy
            have hzL := (hI.high kk (by omega)).trans hz
            have hx0 : wr.cell? ⟨g, k * 3 + k2 * 3, none⟩ = some (.string x.key) := by rw [cell_of_row _ g _ cur _ _ hg, show k * 3 + k2 * 3 = (k + k2) * 3 + 0 by omega]; exact hrow _ x hxL 0 (by decide)
            have hx1 : wr.cell? ⟨g, k * 3 + k2 * 3 + 1, none⟩ = some (.string x.value) := by rw [cell_of_row _ g _ cur _ _ hg, show k * 3 + k2 * 3 + 1 = (k + k2) * 3 + 1 by omega]; exact hrow _ x hxL 1 (by decide)
            have hx2 : wr.cell? ⟨g, k * 3 + k2 * 3 + 2, none⟩ = some (.int .i64 x.effect) := by rw [cell_of_row _ g _ cur _ _ hg, show k * 3 + k2 * 3 + 2 = (k + k2) * 3 + 2 by omega]; exact hrow _ x hxL 2 (by decide)
            have hy0 : wr.cell? ⟨g, k * 3 + (k2 - 1) * 3, none⟩ = some (.string y.key) := by rw [cell_of_row _ g _ cur _ _ hg, show k * 3 + (k2 - 1) * 3 = (k + k2 - 1) * 3 + 0 by omega]; exact hrow _ y hyL 0 (by decide)
            have hy1 : wr.cell? ⟨g, k * 3 + (k2 - 1) * 3 + 1, none⟩ = some (.string y.value) := by rw [cell_of_row _ g _ cur _ _ hg, show k * 3 + (k2 - 1) * 3 + 1 = (k + k2 - 1) * 3 + 1 by omega]; exact hrow _ y hyL 1 (by decide)
            have hy2 : wr.cell? ⟨g, k * 3 + (k2 - 1) * 3 + 2, none⟩ = some (.int .i64 y.effect) := by rw [cell_of_row _ g _ cur _ _ hg, show k * 3 + (k2 - 1) * 3 + 2 = (k + k2 - 1) * 3 + 2 by omega]; exact hrow _ y hyL 2 (by decide)
            have hz0 : wr.cell? ⟨g, kk * 3, none⟩ = some (.string z.key) := by rw [cell_of_row _ g _ cur _ _ hg]; exact hrow _ z hzL 0 (by decide)
            have hz1 : wr.cell? ⟨g, kk * 3 + 1, none⟩ = some (.string z.value) := by rw [cell_of_row _ g _ cur _ _ hg]; exact hrow _ z hzL 1 (by decide)
            have hz2 : wr.cell? ⟨g, kk * 3 + 2, none⟩ = some (.int .i64 z.effect) := by rw [cell_of_row _ g _ cur _ _ hg]; exact hrow _ z hzL 2 (by decide)
            have e1 : (1 : Int) ≤ k2 := by omega
            have e2 : (k2 : Int) < l.length - k := by omega
            have e3 : (0 : Int) ≤ k2 := by omega
            have e4 : (k2 : Int) - 1 < l.length - k := by omega
            have e5 : k2 < l.length - k := by omega
            have e6 : (kk : Int) < l.length := by omega
            have e7 : (0 : Int) ≤ kk := by omega
            have Hx := Lib.hid hx
            have Hy := Lib.hid hy
            clear hx hy hz hxL hyL hzL hrow hg hcs hI hRw
            go_wp2_with fail
            rcases q1 : (x.key.toList == y.key.toList) with _ | _
            all_goals rcases q2 : (x.value.toList == y.value.toList) with _ | _
            all_goals rcases q3 : (x.effect == y.effect) with _ | _
            all_goals have q9 : eqT x y = ((x.key.toList == y.key.toList) && ((x.value.toList == y.value.toList) && (x.effect == y.effect))) := rfl
            all_goals rw [q1, q2, q3] at q9
            all_goals
              refine wp_region_det 10 (by kernel_rfl) (by kernel_rfl) (by decide) ?_
              apply Exists.intro
              refine And.intro ?_ ?_
              · (intro W hW; (try simp only [Act.put, List.setIfInBounds_toArray, List.set_cons_zero, List.set_cons_succ]); first | (go_wp2_with fail; exact ⟨rfl, rfl, Below.refl _ _⟩))
              apply Exists.intro
              refine And.intro ?_ ?_
              · (intro W hW; (try simp only [Act.put, List.setIfInBounds_toArray, List.set_cons_zero, List.set_cons_succ]); first | (go_wp2_with fail; exact ⟨rfl, rfl, Below.refl _ _⟩))
              apply Exists.intro
              refine And.intro ?_ ?_
              · (intro W hW; (try simp only [Act.put, List.setIfInBounds_toArray, List.set_cons_zero, List.set_cons_succ]); first | (go_wp2_with fail; exact ⟨rfl, rfl, Below.refl _ _⟩))
              apply Exists.intro
              refine And.intro ?_ ?_
              · (intro W hW; (try simp only [Act.put, List.setIfInBounds_toArray, List.set_cons_zero, List.set_cons_succ]); first | (obtain ⟨hcW, hfW⟩ := bcell hW; have hsW := hW.size; (try simp at hsW); (try have hsW0 := lt_of_succ_le hsW); (try (have hsW1 := lt_pred hsW; (try (have hsW2 := lt_pred hsW1)))); go_wp2_with fail; exact ⟨rfl, rfl, Below.refl _ _⟩))
              apply Exists.intro
              refine And.intro ?_ ?_
              · (intro W hW; (try simp only [Act.put, List.setIfInBounds_toArray, List.set_cons_zero, List.set_cons_succ]); first | (go_wp2_with fail; exact ⟨rfl, rfl, Below.refl _ _⟩))
              apply Exists.intro
              refine And.intro ?_ ?_
              · (intro W hW; (try simp only [Act.put, List.setIfInBounds_toArray, List.set_cons_zero, List.set_cons_succ]); first | (go_wp2_with fail; exact ⟨rfl, rfl, Below.refl _ _⟩))
              apply Exists.intro
              refine And.intro ?_ ?_
              · (intro W hW; (try simp only [Act.put, List.setIfInBounds_toArray, List.set_cons_zero, List.set_cons_succ]); first | (go_wp2_with fail; exact ⟨rfl, rfl, Below.refl _ _⟩))
              apply Exists.intro
              refine And.intro ?_ ?_
              · (intro W hW; (try simp only [Act.put, List.setIfInBounds_toArray, List.set_cons_zero, List.set_cons_succ]); first | (go_wp2_with fail; exact ⟨rfl, rfl, Below.refl _ _⟩))
              apply Exists.intro
              refine And.intro ?_ ?_
              · (intro W hW; (try simp only [Act.put, List.setIfInBounds_toArray, List.set_cons_zero, List.set_cons_succ]); first | (obtain ⟨hcW, hfW⟩ := bcell hW; have hsW := hW.size; (try simp at hsW); (try have hsW0 := lt_of_succ_le hsW); (try (have hsW1 := lt_pred hsW; (try (have hsW2 := lt_pred hsW1)))); go_wp2_with fail; exact ⟨rfl, rfl, Below.refl _ _⟩))
              apply Exists.intro
              refine And.intro ?_ ?_
              · (intro W hW; (try simp only [Act.put, List.setIfInBounds_toArray, List.set_cons_zero, List.set_cons_succ]); first | (go_wp2_with fail; exact ⟨rfl, rfl, Below.refl _ _⟩))
              intro w1 hb
              (first | (have hcu2 := Cum.join hcu hb; (try clear hcu); (try clear hc); (try clear hfz); (try clear hsz); (try clear hs0); (try clear hs1); (try clear hs2); (try clear hs3); (try clear hs4); ) | have hcu2 := Cum.mk hb); have hcu := hcu2; clear hcu2; obtain ⟨hc, hfz⟩ := bcell hcu.h; have hsz := hcu.h.size; (try simp at hsz); (try have hs0 := lt_of_succ_le hsz); (try (have hs1 := lt_pred hsz; (try (have hs2 := lt_pred hs1; (try (have hs3 := lt_pred hs2; (try have hs4 := lt_pred hs3)))))))
              (try simp only [Act.put, List.setIfInBounds_toArray, List.set_cons_zero, List.set_cons_succ])
              (try simp only [List.drop_succ_cons, List.drop_nil])
              have Bq := hAs.trans (Aside.of_below hb)
              have HR3 := Lib.hid (HR2.out.below hb)
              have hfw : ∀ o, w1.frozen? ⟨g, o, none⟩ = false := (by intro o; obtain ⟨-, -, -, -, cur9, hg9, -⟩ := HR3.out.at encT_len; exact frozen_row hg9 o)
              have hkL := Lib.hid (show kk < L.length by rw [hLl.out]; omega)
              first
                | (have heq : eqT x y = true := q9
                   have HI2 := Lib.hid (HI.out.skip HE.out (show l[k + k2 - 1]? = some y from Hy.out) Hx.out heq)
                   go_wp2_with fail
                   go_roundw
                   case rel => exact ⟨kk, k2 + 1, L, rfl, by go_num, by omega, by omega, HI2.out, HR3.out, Bq⟩
                   case measure => simp [intOf]; omega)
                | (have hne : eqT x y = false := q9
                   have HI2 := Lib.hid (HI.out.keep HE.out (show l[k + k2 - 1]? = some y from Hy.out) Hx.out hne)
                   have HR4 := Lib.hid (HR3.out.store encT_len (by decide) hkL.out (x := x))
                   clear q1 q2 q3 q9
                   go_wp2_with fail
                   go_roundw
                   case rel => exact ⟨kk + 1, k2 + 1, L.set kk x, by go_num, by go_num, by omega, by omega, HI2.out, HR4.out, Bq.trans (aside_setCells (S := fun b => b = g) (g := g) rfl (encT x) (kk * 3) _)⟩
                   case measure => simp [intOf]; omega)
          · have hend : k + k2 = l.length := by omega
            have hkl : kk < l.length := by omega
            have hks : kk * 3 + (l.length - kk) * 3 = l.length * 3 := by omega
            obtain ⟨zs, hzl, hcl⟩ := run_clear_row (P := Try.prog) wr 24 45 (.agg #[.string ⟨#[]⟩, .string ⟨#[]⟩, .int .i64 0]) 3 Try.underlying24 (fun _ => by kernel_rfl) rfl (by decide) g (kk * 3) (l.length - kk) (cap - kk) (by omega) (fun j hj => by rw [cell_of_row _ g _ cur _ _ hg, Array.getElem?_eq_getElem (by omega)]; rfl) (fun j _ => hfz _)
            have HI2 := Lib.hid (show (compB eqT l).length = kk ∧ L.take kk = compB eqT l by have a := hI.len hle; have b := hI.low; rw [hend, List.take_length] at a b; exact ⟨a, b⟩)
            have HR4 := Lib.hid (hRw.cut (zs := zs) encT_len (show kk ≤ L.length by rw [hLl.out]; omega))
            have e6 : (kk : Int) ≤ l.length := by omega
            have e7 : (0 : Int) ≤ kk := by omega
            have e8 : (kk : Int) ≤ cap := by omega
            have e9 : ¬ (k2 : Int) < l.length - k := by omega
            have HH := Lib.hid hend
            clear hI hRw hrow hg hcs hzl hks hend
            go_wp2_with fail
            go_ret
            exact ⟨some ⟨g, 0, none⟩, cap, by rw [HI2.out.1]; rfl, by rw [HI2.out.1, ← HI2.out.2]; exact HR4.out, (hAs.trans (aside_setCells (S := fun b => b = g) (g := g) rfl zs (kk * 3) _)).mono (fun b hb => by subst hb; rfl)⟩
      · obtain rfl : k = l.length := by omega
        have HF := Lib.hid (show compB eqT l = l by unfold FixB at hfix; rw [List.take_length] at hfix; exact hfix)
        have hnn : ¬ (l.length : Int) < l.length := by omega
        go_wp2_with fail
        go_ret
        exact ⟨some ⟨g, 0, none⟩, cap, by rw [HF.out]; rfl, by rw [HF.out]; exact H.out.below hbw, Aside.of_below hbw⟩
set_option maxHeartbeats 4000000 in
set_option maxRecDepth 10000 in
theorem c_Compact_Tolerance (l : List Tolerance) (v : Value) (base : Nat) (w : World) (h : RowE encTol 4 47 base w l v) (hn : l.length ≤ 1048576) :
    Calls Try.prog 58 #[v] w fun e w' => ∃ A c, e = .returned (.slice A (compB eqTol l).length c) ∧ RowE encTol 4 47 base w' (compB eqTol l) (.slice A (compB eqTol l).length c) ∧ Aside (fun b => v.ownBlock = some b) w w' := by
  have HE := Lib.hid tot_Tol.eq
  have H := Lib.hid h
  by_cases h2 : l.length < 2
  · obtain ⟨A, c, rfl⟩ := h.form
    have HS := Lib.hid (compB_short eqTol h2)
    have h2i : (l.length : Int) < 2 := by omega
    clear h
    go_enter Try.func58, Try.ntmps58
    go_wp2_with fail
    go_ret
    exact ⟨A, c, by rw [HS.out]; rfl, by rw [HS.out]; exact H.out, Aside.refl _ _⟩
  · obtain ⟨g, cap, cur, rfl, -, hg, hlc, hc63, -, -⟩ := h.row encTol_len (by omega)
    have hgl := row_lt hg
    have h2i : ¬ (l.length : Int) < 2 := by omega
    clear h hg
    go_enter Try.func58, Try.ntmps58
    go_wp2_with fail
    go_loopw [3] (fun s3 wr => ∃ k : Nat, 1 ≤ k ∧ k ≤ l.length ∧ s3 = .int .i64 k ∧ Below w.heap.size w wr ∧ FixB eqTol l k) (fun s3 _ => l.length - (intOf s3).toNat)
    case atStart => exact ⟨1, Nat.le_refl _, by omega, rfl, Below.refl _ _, compB_short eqTol (by rw [List.length_take]; omega)⟩
    case round =>
      obtain ⟨k, hk1, hk, rfl, hbw, hfix⟩ := hrel
      by_cases hlt : k < l.length
      · obtain ⟨-, -, -, -, cur, hg, -, hrow⟩ := (H.out.below hbw).at encTol_len
        obtain ⟨x, hx⟩ := exists_at hlt
        obtain ⟨y, hy⟩ := exists_at (show k - 1 < l.length by omega)
        have hx0 : wr.cell? ⟨g, k * 4, none⟩ = some (.string x.key) := by rw [cell_of_row _ g _ cur _ _ hg]; exact hrow k x hx 0 (by decide)
        have hx1 : wr.cell? ⟨g, k * 4 + 1, none⟩ = some (.bool x.equal) := by rw [cell_of_row _ g _ cur _ _ hg]; exact hrow k x hx 1 (by decide)
        have hx2 : wr.cell? ⟨g, k * 4 + 2, none⟩ = some (.string x.value) := by rw [cell_of_row _ g _ cur _ _ hg]; exact hrow k x hx 2 (by decide)
        have hx3 : wr.cell? ⟨g, k * 4 + 3, none⟩ = some (.int .i64 x.effect) := by rw [cell_of_row _ g _ cur _ _ hg]; exact hrow k x hx 3 (by decide)
        have hy0 : wr.cell? ⟨g, (k - 1) * 4, none⟩ = some (.string y.key) := by rw [cell_of_row _ g _ cur _ _ hg]; exact hrow (k - 1) y hy 0 (by decide)
        have hy1 : wr.cell? ⟨g, (k - 1) * 4 + 1, none⟩ = some (.bool y.equal) := by rw [cell_of_row _ g _ cur _ _ hg]; exact hrow (k - 1) y hy 1 (by decide)
        have hy2 : wr.cell? ⟨g, (k - 1) * 4 + 2, none⟩ = some (.string y.value) := by rw [cell_of_row _ g _ cur _ _ hg]; exact hrow (k - 1) y hy 2 (by decide)
        have hy3 : wr.cell? ⟨g, (k - 1) * 4 + 3, none⟩ = some (.int .i64 y.effect) := by rw [cell_of_row _ g _ cur _ _ hg]; exact hrow (k - 1) y hy 3 (by decide)
        have hgl2 := row_lt hg
        have hk0 : (0 : Int) ≤ k := by omega
        have hk1' : (1 : Int) ≤ k := by omega
        have hk2 : (k : Int) < l.length := by omega
        have hk3 : (k : Int) - 1 < l.length := by omega
        have hkc : (k : Int) ≤ cap := by omega
        have Hx := Lib.hid hx
        have Hy := Lib.hid hy
        clear hx hy hrow hg
        go_wp2_with fail
        rcases q1 : (x.key.toList == y.key.toList) with _ | _
        all_goals rcases q2 : (x.equal == y.equal) with _ | _
        all_goals rcases q3 : (x.value.toList == y.value.toList) with _ | _
        all_goals rcases q4 : (x.effect == y.effect) with _ | _
        all_goals have q9 : eqTol x y = ((x.key.toList == y.key.toList) && ((x.equal == y.equal) && ((x.value.toList == y.value.toList) && (x.effect == y.effect)))) := rfl
        all_goals rw [q1, q2, q3, q4] at q9
        all_goals
          refine wp_region_det 10 (by kernel_rfl) (by kernel_rfl) (by decide) ?_
          apply Exists.intro
          refine And.intro ?_ ?_
          · (intro W hW; (try simp only [Act.put, List.setIfInBounds_toArray, List.set_cons_zero, List.set_cons_succ]); first | (go_wp2_with fail; exact ⟨rfl, rfl, Below.refl _ _⟩))
          apply Exists.intro
          refine And.intro ?_ ?_
          · (intro W hW; (try simp only [Act.put, List.setIfInBounds_toArray, List.set_cons_zero, List.set_cons_succ]); first | (go_wp2_with fail; exact ⟨rfl, rfl, Below.refl _ _⟩))
          apply Exists.intro
          refine And.intro ?_ ?_
          · (intro W hW; (try simp only [Act.put, List.setIfInBounds_toArray, List.set_cons_zero, List.set_cons_succ]); first | (go_wp2_with fail; exact ⟨rfl, rfl, Below.refl _ _⟩))
          apply Exists.intro
          refine And.intro ?_ ?_
          · (intro W hW; (try simp only [Act.put, List.setIfInBounds_toArray, List.set_cons_zero, List.set_cons_succ]); first | (obtain ⟨hcW, hfW⟩ := bcell hW; have hsW := hW.size; (try simp at hsW); (try have hsW0 := lt_of_succ_le hsW); (try (have hsW1 := lt_pred hsW; (try (have hsW2 := lt_pred hsW1)))); go_wp2_with fail; exact ⟨rfl, rfl, Below.refl _ _⟩))
          apply Exists.intro
          refine And.intro ?_ ?_
          · (intro W hW; (try simp only [Act.put, List.setIfInBounds_toArray, List.set_cons_zero, List.set_cons_succ]); first | (go_wp2_with fail; exact ⟨rfl, rfl, Below.refl _ _⟩))
          apply Exists.intro
          refine And.intro ?_ ?_
          · (intro W hW; (try simp only [Act.put, List.setIfInBounds_toArray, List.set_cons_zero, List.set_cons_succ]); first | (go_wp2_with fail; exact ⟨rfl, rfl, Below.refl _ _⟩))
          apply Exists.intro
          refine And.intro ?_ ?_
          · (intro W hW; (try simp only [Act.put, List.setIfInBounds_toArray, List.set_cons_zero, List.set_cons_succ]); first | (go_wp2_with fail; exact ⟨rfl, rfl, Below.refl _ _⟩))
          apply Exists.intro
          refine And.intro ?_ ?_
          · (intro W hW; (try simp only [Act.put, List.setIfInBounds_toArray, List.set_cons_zero, List.set_cons_succ]); first | (go_wp2_with fail; exact ⟨rfl, rfl, Below.refl _ _⟩))
          apply Exists.intro
          refine And.intro ?_ ?_
          · (intro W hW; (try simp only [Act.put, List.setIfInBounds_toArray, List.set_cons_zero, List.set_cons_succ]); first | (obtain ⟨hcW, hfW⟩ := bcell hW; have hsW := hW.size; (try simp at hsW); (try have hsW0 := lt_of_succ_le hsW); (try (have hsW1 := lt_pred hsW; (try (have hsW2 := lt_pred hsW1)))); go_wp2_with fail; exact ⟨rfl, rfl, Below.refl _ _⟩))
          apply Exists.intro
          refine And.intro ?_ ?_
          · (intro W hW; (try simp only [Act.put, List.setIfInBounds_toArray, List.set_cons_zero, List.set_cons_succ]); first | (go_wp2_with fail; exact ⟨rfl, rfl, Below.refl _ _⟩))
          intro w1 hb
          (first | (have hcu2 := Cum.join hcu hb; (try clear hcu); (try clear hc); (try clear hfz); (try clear hsz); (try clear hs0); (try clear hs1); (try clear hs2); (try clear hs3); (try clear hs4); ) | have hcu2 := Cum.mk hb); have hcu := hcu2; clear hcu2; obtain ⟨hc, hfz⟩ := bcell hcu.h; have hsz := hcu.h.size; (try simp at hsz); (try have hs0 := lt_of_succ_le hsz); (try (have hs1 := lt_pred hsz; (try (have hs2 := lt_pred hs1; (try (have hs3 := lt_pred hs2; (try have hs4 := lt_pred hs3)))))))
          (try simp only [Act.put, List.setIfInBounds_toArray, List.set_cons_zero, List.set_cons_succ])
          (try simp only [List.drop_succ_cons, List.drop_nil])
          have Bq := hbw.trans (hb.mono hbw.size)
          first
            | (have hne : eqTol x y = false := q9
               have Hf := Lib.hid (show FixB eqTol l (k + 1) by unfold FixB; unfold FixB at hfix; rw [compB_take HE.out hk1 Hy.out Hx.out, hne, hfix, List.take_add_one, Hx.out]; rfl)
               go_wp2_with fail
               go_roundw
               case rel => exact ⟨k + 1, by omega, by omega, by go_num, Bq, Hf.out⟩
               case measure => simp [intOf]; omega)
            | skip
        have hI0 := Lib.hid (CompL.start HE.out hk1 Hy.out Hx.out hfix q9)
        have HRow := Lib.hid (H.out.below Bq)
        have HAs : Aside (fun b => b = g) w w1 := Aside.of_below Bq
        clear q9 q1 q2 q3 q4
        go_wp2_with fail
        go_loopw [3, 5] (fun s3 s5 wr => ∃ (kk k2 : Nat) (L : List Tolerance), s3 = .int .i64 kk ∧ s5 = .int .i64 k2 ∧ 1 ≤ k2 ∧ k + k2 ≤ l.length ∧ CompL eqTol l (k + k2) kk L ∧ RowE encTol 4 47 base wr L (.slice (some ⟨g, 0, none⟩) l.length cap) ∧ Aside (fun b => b = g) w wr) (fun _ s5 _ => l.length - k - (intOf s5).toNat)
        case atStart => exact ⟨k, 1, l, rfl, rfl, Nat.le_refl _, by omega, hI0.out, HRow.out, HAs⟩
        case round =>
          obtain ⟨kk, k2, L, rfl, rfl, h1, hle, hI, hRw, hAs⟩ := hrel
          have hkk := hI.lt
          have HI := Lib.hid hI
          have HR2 := Lib.hid hRw
          have hLl := Lib.hid hI.size
          obtain ⟨-, -, -, -, cur, hg, hcs, hrow⟩ := hRw.at encTol_len
          have hfz : ∀ o, wr.frozen? ⟨g, o, none⟩ = false := fun o => frozen_row hg o
          have hgl3 := row_lt hg
          by_cases hlt2 : k + k2 < l.length
          · obtain ⟨x, hx⟩ := exists_at hlt2
            obtain ⟨y, hy⟩ := exists_at (show k + k2 - 1 < l.length by omega)
            obtain ⟨z, hz⟩ := exists_at (show kk < l.length by omega)
            have hxL := (hI.high (k + k2) (by omega)).trans hx
            have hyL := (hI.high (k + k2 - 1) (by omega)).trans hy
            have hzL := (hI.high kk (by omega)).trans hz
            have hx0 : wr.cell? ⟨g, k * 4 + k2 * 4, none⟩ = some (.string x.key) := by rw [cell_of_row _ g _ cur _ _ hg, show k * 4 + k2 * 4 = (k + k2) * 4 + 0 by omega]; exact hrow _ x hxL 0 (by decide)
            have hx1 : wr.cell? ⟨g, k * 4 + k2 * 4 + 1, none⟩ = some (.bool x.equal) := by rw [cell_of_row _ g _ cur _ _ hg, show k * 4 + k2 * 4 + 1 = (k + k2) * 4 + 1 by omega]; exact hrow _ x hxL 1 (by decide)
            have hx2 : wr.cell? ⟨g, k * 4 + k2 * 4 + 2, none⟩ = some (.string x.value) := by rw [cell_of_row _ g _ cur _ _ hg, show k * 4 + k2 * 4 + 2 = (k + k2) * 4 + 2 by omega]; exact hrow _ x hxL 2 (by decide)
            have hx3 : wr.cell? ⟨g, k * 4 + k2 * 4 + 3, none⟩ = some (.int .i64 x.effect) := by rw [cell_of_row _ g _ cur _ _ hg, show k * 4 + k2 * 4 + 3 = (k + k2) * 4 + 3 by omega]; exact hrow _ x hxL 3 (by decide)
            have hy0 : wr.cell? ⟨g, k * 4 + (k2 - 1) * 4, none⟩ = some (.string y.key) := by rw [cell_of_row _ g _ cur _ _ hg, show k * 4 + (k2 - 1) * 4 = (k + k2 - 1) * 4 + 0 by omega]; exact hrow _ y hyL 0 (by decide)
            have hy1 : wr.cell? ⟨g, k * 4 + (k2 - 1) * 4 + 1, none⟩ = some (.bool y.equal) := by rw [cell_of_row _ g _ cur _ _ hg, show k * 4 + (k2 - 1) * 4 + 1 = (k + k2 - 1) * 4 + 1 by omega]; exact hrow _ y hyL 1 (by decide)
            have hy2 : wr.cell? ⟨g, k * 4 + (k2 - 1) * 4 + 2, none⟩ = some (.string y.value) := by rw [cell_of_row _ g _ cur _ _ hg, show k * 4 + (k2 - 1) * 4 + 2 = (k + k2 - 1) * 4 + 2 by omega]; exact hrow _ y hyL 2 (by decide)
            have hy3 : wr.cell? ⟨g, k * 4 + (k2 - 1) * 4 + 3, none⟩ = some (.int .i64 y.effect) := by rw [cell_of_row _ g _ cur _ _ hg, show k * 4 + (k2 - 1) * 4 + 3 = (k + k2 - 1) * 4 + 3 by omega]; exact hrow _ y hyL 3 (by decide)
            have hz0 : wr.cell? ⟨g, kk * 4, none⟩ = some (.string z.key) := by rw [cell_of_row _ g _ cur _ _ hg]; exact hrow _ z hzL 0 (by decide)
            have hz1 : wr.cell? ⟨g, kk * 4 + 1, none⟩ = some (.bool z.equal) := by rw [cell_of_row _ g _ cur _ _ hg]; exact hrow _ z hzL 1 (by decide)
            have hz2 : wr.cell? ⟨g, kk * 4 + 2, none⟩ = some (.string z.value) := by rw [cell_of_row _ g _ cur _ _ hg]; exact hrow _ z hzL 2 (by decide)
            have hz3 : wr.cell? ⟨g, kk * 4 + 3, none⟩ = some (.int .i64 z.effect) := by rw [cell_of_row _ g _ cur _ _ hg]; exact hrow _ z hzL 3 (by decide)
            have e1 : (1 : Int) ≤ k2 := by omega
            have e2 : (k2 : Int) < l.length - k := by omega
            have e3 : (0 : Int) ≤ k2 := by omega
            have e4 : (k2 : Int) - 1 < l.length - k := by omega
            have e5 : k2 < l.length - k := by omega
            have e6 : (kk : Int) < l.length := by omega
            have e7 : (0 : Int) ≤ kk := by omega
            have Hx := Lib.hid hx
            have Hy := Lib.hid hy
            clear hx hy hz hxL hyL hzL hrow hg hcs hI hRw
            go_wp2_with fail
            rcases q1 : (x.key.toList == y.key.toList) with _ | _
            all_goals rcases q2 : (x.equal == y.equal) with _ | _
            all_goals rcases q3 : (x.value.toList == y.value.toList) with _ | _
            all_goals rcases q4 : (x.effect == y.effect) with _ | _
            all_goals have q9 : eqTol x y = ((x.key.toList == y.key.toList) && ((x.equal == y.equal) && ((x.value.toList == y.value.toList) && (x.effect == y.effect)))) := rfl
            all_goals rw [q1, q2, q3, q4] at q9
            all_goals
              refine wp_region_det 10 (by kernel_rfl) (by kernel_rfl) (by decide) ?_
              apply Exists.intro
              refine And.intro ?_ ?_
              · (intro W hW; (try simp only [Act.put, List.setIfInBounds_toArray, List.set_cons_zero, List.set_cons_succ]); first | (go_wp2_with fail; exact ⟨rfl, rfl, Below.refl _ _⟩))
              apply Exists.intro
              refine And.intro ?_ ?_
              · (intro W hW; (try simp only [Act.put, List.setIfInBounds_toArray, List.set_cons_zero, List.set_cons_succ]); first | (go_wp2_with fail; exact ⟨rfl, rfl, Below.refl _ _⟩))
              apply Exists.intro
              refine And.intro ?_ ?_
              · (intro W hW; (try simp only [Act.put, List.setIfInBounds_toArray, List.set_cons_zero, List.set_cons_succ]); first | (go_wp2_with fail; exact ⟨rfl, rfl, Below.refl _ _⟩))
              apply Exists.intro
              refine And.intro ?_ ?_
              · (intro W hW; (try simp only [Act.put, List.setIfInBounds_toArray, List.set_cons_zero, List.set_cons_succ]); first | (obtain ⟨hcW, hfW⟩ := bcell hW; have hsW := hW.size; (try simp at hsW); (try have hsW0 := lt_of_succ_le hsW); (try (have hsW1 := lt_pred hsW; (try (have hsW2 := lt_pred hsW1)))); go_wp2_with fail; exact ⟨rfl, rfl, Below.refl _ _⟩))
              apply Exists.intro
              refine And.intro ?_ ?_
              · (intro W hW; (try simp only [Act.put, List.setIfInBounds_toArray, List.set_cons_zero, List.set_cons_succ]); first | (go_wp2_with fail; exact ⟨rfl, rfl, Below.refl _ _⟩))
              apply Exists.intro
              refine And.intro ?_ ?_
              · (intro W hW; (try simp only [Act.put, List.setIfInBounds_toArray, List.set_cons_zero, List.set_cons_succ]); first | (go_wp2_with fail; exact ⟨rfl, rfl, Below.refl _ _⟩))
              apply Exists.intro
              refine And.intro ?_ ?_
              · (intro W hW; (try simp only [Act.put, List.setIfInBounds_toArray, List.set_cons_zero, List.set_cons_succ]); first | (go_wp2_with fail; exact ⟨rfl, rfl, Below.refl _ _⟩))
              apply Exists.intro
              refine And.intro ?_ ?_
              · (intro W hW; (try simp only [Act.put, List.setIfInBounds_toArray, List.set_cons_zero, List.set_cons_succ]); first | (go_wp2_with fail; exact ⟨rfl, rfl, Below.refl _ _⟩))
              apply Exists.intro
              refine And.intro ?_ ?_
              · (intro W hW; (try simp only [Act.put, List.setIfInBounds_toArray, List.set_cons_zero, List.set_cons_succ]); first | (obtain ⟨hcW, hfW⟩ := bcell hW; have hsW := hW.size; (try simp at hsW); (try have hsW0 := lt_of_succ_le hsW); (try (have hsW1 := lt_pred hsW; (try (have hsW2 := lt_pred hsW1)))); go_wp2_with fail; exact ⟨rfl, rfl, Below.refl _ _⟩))
              apply Exists.intro
              refine And.intro ?_ ?_
              · (intro W hW; (try simp only [Act.put, List.setIfInBounds_toArray, List.set_cons_zero, List.set_cons_succ]); first | (go_wp2_with fail; exact ⟨rfl, rfl, Below.refl _ _⟩))
              intro w1 hb
              (first | (have hcu2 := Cum.join hcu hb; (try clear hcu); (try clear hc); (try clear hfz); (try clear hsz); (try clear hs0); (try clear hs1); (try clear hs2); (try clear hs3); (try clear hs4); ) | have hcu2 := Cum.mk hb); have hcu := hcu2; clear hcu2; obtain ⟨hc, hfz⟩ := bcell hcu.h; have hsz := hcu.h.size; (try simp at hsz); (try have hs0 := lt_of_succ_le hsz); (try (have hs1 := lt_pred hsz; (try (have hs2 := lt_pred hs1; (try (have hs3 := lt_pred hs2; (try have hs4 := lt_pred hs3)))))))
              (try simp only [Act.put, List.setIfInBounds_toArray, List.set_cons_zero, List.set_cons_succ])
              (try simp only [List.drop_succ_cons, List.drop_nil])
              have Bq := hAs.trans (Aside.of_below hb)
              have HR3 := Lib.hid (HR2.out.below hb)
              have hfw : ∀ o, w1.frozen? ⟨g, o, none⟩ = false := (by intro o; obtain ⟨-, -, -, -, cur9, hg9, -⟩ := HR3.out.at encTol_len; exact frozen_row hg9 o)
              have hkL := Lib.hid (show kk < L.length by rw [hLl.out]; omega)
              first
                | (have heq : eqTol x y = true := q9
                   have HI2 := Lib.hid (HI.out.skip HE.out (show l[k + k2 - 1]? = some y from Hy.out) Hx.out heq)
                   go_wp2_with fail
                   go_roundw
                   case rel => exact ⟨kk, k2 + 1, L, rfl, by go_num, by omega, by omega, HI2.out, HR3.out, Bq⟩
                   case measure => simp [intOf]; omega)
                | (have hne : eqTol x y = false := q9
                   have HI2 := Lib.hid (HI.out.keep HE.out (show l[k + k2 - 1]? = some y from Hy.out) Hx.out hne)
                   have HR4 := Lib.hid (HR3.out.store encTol_len (by decide) hkL.out (x := x))
                   clear q1 q2 q3 q4 q9
                   go_wp2_with fail
                   go_roundw
                   case rel => exact ⟨kk + 1, k2 + 1, L.set kk x, by go_num, by go_num, by omega, by omega, HI2.out, HR4.out, Bq.trans (aside_setCells (S := fun b => b = g) (g := g) rfl (encTol x) (kk * 4) _)⟩
                   case measure => simp [intOf]; omega)
          · have hend : k + k2 = l.length := by omega
            have hkl : kk < l.length := by omega
            have hks : kk * 4 + (l.length - kk) * 4 = l.length * 4 := by omega
            obtain ⟨zs, hzl, hcl⟩ := run_clear_row (P := Try.prog) wr 33 47 (.agg #[.string ⟨#[]⟩, .bool false, .string ⟨#[]⟩, .int .i64 0]) 4 Try.underlying33 (fun _ => by kernel_rfl) rfl (by decide) g (kk * 4) (l.length - kk) (cap - kk) (by omega) (fun j hj => by rw [cell_of_row _ g _ cur _ _ hg, Array.getElem?_eq_getElem (by omega)]; rfl) (fun j _ => hfz _)
            have HI2 := Lib.hid (show (compB eqTol l).length = kk ∧ L.take kk = compB eqTol l by have a := hI.len hle; have b := hI.low; rw [hend, List.take_length] at a b; exact ⟨a, b⟩)
            have HR4 := Lib.hid (hRw.cut (zs := zs) encTol_len (show kk ≤ L.length by rw [hLl.out]; omega))
            have e6 : (kk : Int) ≤ l.length := by omega
            have e7 : (0 : Int) ≤ kk := by omega
            have e8 : (kk : Int) ≤ cap := by omega
            have e9 : ¬ (k2 : Int) < l.length - k := by omega
            have HH := Lib.hid hend
            clear hI hRw hrow hg hcs hzl hks hend
            go_wp2_with fail
            go_ret
            exact ⟨some ⟨g, 0, none⟩, cap, by rw [HI2.out.1]; rfl, by rw [HI2.out.1, ← HI2.out.2]; exact HR4.out, (hAs.trans (aside_setCells (S := fun b => b = g) (g := g) rfl zs (kk * 4) _)).mono (fun b hb => by subst hb; rfl)⟩
      · obtain rfl : k = l.length := by omega
        have HF := Lib.hid (show compB eqTol l = l by unfold FixB at hfix; rw [List.take_length] at hfix; exact hfix)
        have hnn : ¬ (l.length : Int) < l.length := by omega
        go_wp2_with fail
        go_ret
        exact ⟨some ⟨g, 0, none⟩, cap, by rw [HF.out]; rfl, by rw [HF.out]; exact H.out.below hbw, Aside.of_below hbw⟩
end Go.Proofs.Ytmhlnbihppojmaa
