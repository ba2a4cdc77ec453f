/- slices.Compact at strings, over a row of the call's own. No conditions. Written by wip/tools/gencomps.py. -/
import Derived.Test.YtmhlnbihppojmaaCompE
import Derived.Test.YtmhlnbihppojmaaValS
namespace Go.Proofs.Ytmhlnbihppojmaa
open Go.RowKit

set_option maxHeartbeats 4000000 in
set_option maxRecDepth 10000 in
theorem c_Compact_Str (l : List ByteArray) (v : Value) (base : Nat) (w : World) (h : RowE encS 1 9 base w l v) (hn : l.length ≤ 1048576) :
    Calls Try.prog 77 #[v] w fun e w' => ∃ A c, v = .slice A l.length c ∧ e = .returned (.slice A (compB eqS l).length c) ∧ RowE encS 1 9 base w' (compB eqS l) (.slice A (compB eqS l).length c) ∧ Aside (fun b => v.ownBlock = some b) w w' := by
  have HE := Lib.hid tot_S.eq
  have H := Lib.hid h
  by_cases h2 : l.length < 2
  · obtain ⟨A, c, rfl⟩ := h.form
    have HS := Lib.hid (compB_short eqS h2)
    have h2i : (l.length : Int) < 2 := by omega
    clear h
    go_enter Try.func77, Try.ntmps77
    go_wp2_with fail
    go_ret
    exact ⟨A, c, rfl, by rw [HS.out]; rfl, by rw [HS.out]; exact H.out, Aside.refl _ _⟩
  · obtain ⟨g, cap, cur, rfl, -, hg, hlc, hc63, -, -⟩ := h.row encS_len (by omega)
    have hgl := row_lt hg
    have h2i : ¬ (l.length : Int) < 2 := by omega
    clear h hg
    go_enter Try.func77, Try.ntmps77
    go_wp2_with fail
    go_loopw [3] (fun s3 wr => ∃ k : Nat, 1 ≤ k ∧ k ≤ l.length ∧ s3 = .int .i64 k ∧ Below w.heap.size w wr ∧ FixB eqS l k) (fun s3 _ => l.length - (intOf s3).toNat)
    case atStart => exact ⟨1, Nat.le_refl _, by omega, rfl, Below.refl _ _, compB_short eqS (by rw [List.length_take]; omega)⟩
    case round =>
      obtain ⟨k, hk1, hk, rfl, hbw, hfix⟩ := hrel
      by_cases hlt : k < l.length
      · obtain ⟨-, -, -, -, cur, hg, -, hrow⟩ := (H.out.below hbw).at encS_len
        obtain ⟨x, hx⟩ := exists_at hlt
        obtain ⟨y, hy⟩ := exists_at (show k - 1 < l.length by omega)
        have hx0 : wr.cell? ⟨g, k, none⟩ = some (.string x) := by rw [cell_of_row _ g _ cur _ _ hg]; have h9 := hrow k x hx 0 (by decide); simp only [Nat.mul_one, Nat.add_zero] at h9; exact h9
        have hy0 : wr.cell? ⟨g, (k - 1), none⟩ = some (.string y) := by rw [cell_of_row _ g _ cur _ _ hg]; have h9 := hrow (k - 1) y hy 0 (by decide); simp only [Nat.mul_one, Nat.add_zero] at h9; exact h9
        have hgl2 := row_lt hg
        have hk0 : (0 : Int) ≤ k := by omega
        have hk1' : (1 : Int) ≤ k := by omega
        have hk2 : (k : Int) < l.length := by omega
        have hk3 : (k : Int) - 1 < l.length := by omega
        have hkc : (k : Int) ≤ cap := by omega
        have Hx := Lib.hid hx
        have Hy := Lib.hid hy
        clear hx hy hrow hg
        go_wp2_with fail
        rcases q1 : (x.toList == y.toList) with _ | _
        all_goals have q9 : eqS x y = (x.toList == y.toList) := rfl
        all_goals rw [q1] at q9
        all_goals
          refine wp_region_det 10 (by kernel_rfl) (by kernel_rfl) (by decide) ?_
          apply Exists.intro
          refine And.intro ?_ ?_
          · (intro W hW; (try simp only [Act.put, List.setIfInBounds_toArray, List.set_cons_zero, List.set_cons_succ]); first | (go_wp2_with fail; exact ⟨rfl, rfl, Below.refl _ _⟩))
          apply Exists.intro
          refine And.intro ?_ ?_
          · (intro W hW; (try simp only [Act.put, List.setIfInBounds_toArray, List.set_cons_zero, List.set_cons_succ]); first | (go_wp2_with fail; exact ⟨rfl, rfl, Below.refl _ _⟩))
          apply Exists.intro
          refine And.intro ?_ ?_
          · (intro W hW; (try simp only [Act.put, List.setIfInBounds_toArray, List.set_cons_zero, List.set_cons_succ]); first | (go_wp2_with fail; exact ⟨rfl, rfl, Below.refl _ _⟩))
          apply Exists.intro
          refine And.intro ?_ ?_
          · (intro W hW; (try simp only [Act.put, List.setIfInBounds_toArray, List.set_cons_zero, List.set_cons_succ]); first | (obtain ⟨hcW, hfW⟩ := bcell hW; have hsW := hW.size; (try simp at hsW); (try have hsW0 := lt_of_succ_le hsW); (try (have hsW1 := lt_pred hsW; (try (have hsW2 := lt_pred hsW1)))); go_wp2_with fail; exact ⟨rfl, rfl, Below.refl _ _⟩))
          apply Exists.intro
          refine And.intro ?_ ?_
          · (intro W hW; (try simp only [Act.put, List.setIfInBounds_toArray, List.set_cons_zero, List.set_cons_succ]); first | (go_wp2_with fail; exact ⟨rfl, rfl, Below.refl _ _⟩))
          apply Exists.intro
          refine And.intro ?_ ?_
          · (intro W hW; (try simp only [Act.put, List.setIfInBounds_toArray, List.set_cons_zero, List.set_cons_succ]); first | (go_wp2_with fail; exact ⟨rfl, rfl, Below.refl _ _⟩))
          apply Exists.intro
          refine And.intro ?_ ?_
          · (intro W hW; (try simp only [Act.put, List.setIfInBounds_toArray, List.set_cons_zero, List.set_cons_succ]); first | (go_wp2_with fail; exact ⟨rfl, rfl, Below.refl _ _⟩))
          apply Exists.intro
          refine And.intro ?_ ?_
          · (intro W hW; (try simp only [Act.put, List.setIfInBounds_toArray, List.set_cons_zero, List.set_cons_succ]); first | (go_wp2_with fail; exact ⟨rfl, rfl, Below.refl _ _⟩))
          apply Exists.intro
          refine And.intro ?_ ?_
          · (intro W hW; (try simp only [Act.put, List.setIfInBounds_toArray, List.set_cons_zero, List.set_cons_succ]); first | (obtain ⟨hcW, hfW⟩ := bcell hW; have hsW := hW.size; (try simp at hsW); (try have hsW0 := lt_of_succ_le hsW); (try (have hsW1 := lt_pred hsW; (try (have hsW2 := lt_pred hsW1)))); go_wp2_with fail; exact ⟨rfl, rfl, Below.refl _ _⟩))
          apply Exists.intro
          refine And.intro ?_ ?_
          · (intro W hW; (try simp only [Act.put, List.setIfInBounds_toArray, List.set_cons_zero, List.set_cons_succ]); first | (go_wp2_with fail; exact ⟨rfl, rfl, Below.refl _ _⟩))
          intro w1 hb
          (first | (have hcu2 := Cum.join hcu hb; (try clear hcu); (try clear hc); (try clear hfz); (try clear hsz); (try clear hs0); (try clear hs1); (try clear hs2); (try clear hs3); (try clear hs4); ) | have hcu2 := Cum.mk hb); have hcu := hcu2; clear hcu2; obtain ⟨hc, hfz⟩ := bcell hcu.h; have hsz := hcu.h.size; (try simp at hsz); (try have hs0 := lt_of_succ_le hsz); (try (have hs1 := lt_pred hsz; (try (have hs2 := lt_pred hs1; (try (have hs3 := lt_pred hs2; (try have hs4 := lt_pred hs3)))))))
          (try simp only [Act.put, List.setIfInBounds_toArray, List.set_cons_zero, List.set_cons_succ])
          (try simp only [List.drop_succ_cons, List.drop_nil])
          have Bq := hbw.trans (hb.mono hbw.size)
          first
            | (have hne : eqS x y = false := q9
               have Hf := Lib.hid (show FixB eqS l (k + 1) by unfold FixB; unfold FixB at hfix; rw [compB_take HE.out hk1 Hy.out Hx.out, hne, hfix, List.take_add_one, Hx.out]; rfl)
               go_wp2_with fail
               go_roundw
               case rel => exact ⟨k + 1, by omega, by omega, by go_num, Bq, Hf.out⟩
               case measure => simp [intOf]; omega)
            | skip
        have hI0 := Lib.hid (CompL.start HE.out hk1 Hy.out Hx.out hfix q9)
        have HRow := Lib.hid (H.out.below Bq)
        have HAs : Aside (fun b => b = g) w w1 := Aside.of_below Bq
        clear q9 q1
        go_wp2_with fail
        go_loopw [3, 5] (fun s3 s5 wr => ∃ (kk k2 : Nat) (L : List ByteArray), s3 = .int .i64 kk ∧ s5 = .int .i64 k2 ∧ 1 ≤ k2 ∧ k + k2 ≤ l.length ∧ CompL eqS l (k + k2) kk L ∧ RowE encS 1 9 base wr L (.slice (some ⟨g, 0, none⟩) l.length cap) ∧ Aside (fun b => b = g) w wr) (fun _ s5 _ => l.length - k - (intOf s5).toNat)
        case atStart => exact ⟨k, 1, l, rfl, rfl, Nat.le_refl _, by omega, hI0.out, HRow.out, HAs⟩
        case round =>
          obtain ⟨kk, k2, L, rfl, rfl, h1, hle, hI, hRw, hAs⟩ := hrel
          have hkk := hI.lt
          have HI := Lib.hid hI
          have HR2 := Lib.hid hRw
          have hLl := Lib.hid hI.size
          obtain ⟨-, -, -, -, cur, hg, hcs, hrow⟩ := hRw.at encS_len
          have hfz : ∀ o, wr.frozen? ⟨g, o, none⟩ = false := fun o => frozen_row hg o
          have hgl3 := row_lt hg
          by_cases hlt2 : k + k2 < l.length
          · obtain ⟨x, hx⟩ := exists_at hlt2
            obtain ⟨y, hy⟩ := exists_at (show k + k2 - 1 < l.length by omega)
            obtain ⟨z, hz⟩ := exists_at (show kk < l.length by omega)
            have hxL := (hI.high (k + k2) (by omega)).trans hx
            have hyL := (hI.high (k + k2 - 1) (by omega)).trans hy
            have hzL := (hI.high kk (by omega)).trans hz
            have hx0 : wr.cell? ⟨g, k + k2, none⟩ = some (.string x) := by rw [cell_of_row _ g _ cur _ _ hg]; have h9 := hrow _ x hxL 0 (by decide); simp only [Nat.mul_one, Nat.add_zero] at h9; exact h9
            have hy0 : wr.cell? ⟨g, k + (k2 - 1), none⟩ = some (.string y) := by rw [cell_of_row _ g _ cur _ _ hg]; have h9 := hrow _ y hyL 0 (by decide); simp only [Nat.mul_one, Nat.add_zero] at h9; rw [show k + (k2 - 1) = k + k2 - 1 by omega]; exact h9
            have hz0 : wr.cell? ⟨g, kk, none⟩ = some (.string z) := by rw [cell_of_row _ g _ cur _ _ hg]; have h9 := hrow _ z hzL 0 (by decide); simp only [Nat.mul_one, Nat.add_zero] at h9; exact h9
            have e1 : (1 : Int) ≤ k2 := by omega
            have e2 : (k2 : Int) < l.length - k := by omega
            have e3 : (0 : Int) ≤ k2 := by omega
            have e4 : (k2 : Int) - 1 < l.length - k := by omega
            have e5 : k2 < l.length - k := by omega
            have e6 : (kk : Int) < l.length := by omega
            have e7 : (0 : Int) ≤ kk := by omega
            have Hx := Lib.hid hx
            have Hy := Lib.hid hy
            clear hx hy hz hxL hyL hzL hrow hg hcs hI hRw
            go_wp2_with fail
            rcases q1 : (x.toList == y.toList) with _ | _
            all_goals have q9 : eqS x y = (x.toList == y.toList) := rfl
            all_goals rw [q1] at q9
            all_goals
              refine wp_region_det 10 (by kernel_rfl) (by kernel_rfl) (by decide) ?_
              apply Exists.intro
              refine And.intro ?_ ?_
              · (intro W hW; (try simp only [Act.put, List.setIfInBounds_toArray, List.set_cons_zero, List.set_cons_succ]); first | (go_wp2_with fail; exact ⟨rfl, rfl, Below.refl _ _⟩))
              apply Exists.intro
              refine And.intro ?_ ?_
              · (intro W hW; (try simp only [Act.put, List.setIfInBounds_toArray, List.set_cons_zero, List.set_cons_succ]); first | (go_wp2_with fail; exact ⟨rfl, rfl, Below.refl _ _⟩))
              apply Exists.intro
              refine And.intro ?_ ?_
              · (intro W hW; (try simp only [Act.put, List.setIfInBounds_toArray, List.set_cons_zero, List.set_cons_succ]); first | (go_wp2_with fail; exact ⟨rfl, rfl, Below.refl _ _⟩))
              apply Exists.intro
              refine And.intro ?_ ?_
              · (intro W hW; (try simp only [Act.put, List.setIfInBounds_toArray, List.set_cons_zero, List.set_cons_succ]); first | (obtain ⟨hcW, hfW⟩ := bcell hW; have hsW := hW.size; (try simp at hsW); (try have hsW0 := lt_of_succ_le hsW); (try (have hsW1 := lt_pred hsW; (try (have hsW2 := lt_pred hsW1)))); go_wp2_with fail; exact ⟨rfl, rfl, Below.refl _ _⟩))
              apply Exists.intro
              refine And.intro ?_ ?_
              · (intro W hW; (try simp only [Act.put, List.setIfInBounds_toArray, List.set_cons_zero, List.set_cons_succ]); first | (go_wp2_with fail; exact ⟨rfl, rfl, Below.refl _ _⟩))
              apply Exists.intro
              refine And.intro ?_ ?_
              · (intro W hW; (try simp only [Act.put, List.setIfInBounds_toArray, List.set_cons_zero, List.set_cons_succ]); first | (go_wp2_with fail; exact ⟨rfl, rfl, Below.refl _ _⟩))
              apply Exists.intro
              refine And.intro ?_ ?_
              · (intro W hW; (try simp only [Act.put, List.setIfInBounds_toArray, List.set_cons_zero, List.set_cons_succ]); first | (go_wp2_with fail; exact ⟨rfl, rfl, Below.refl _ _⟩))
              apply Exists.intro
              refine And.intro ?_ ?_
              · (intro W hW; (try simp only [Act.put, List.setIfInBounds_toArray, List.set_cons_zero, List.set_cons_succ]); first | (go_wp2_with fail; exact ⟨rfl, rfl, Below.refl _ _⟩))
              apply Exists.intro
              refine And.intro ?_ ?_
              · (intro W hW; (try simp only [Act.put, List.setIfInBounds_toArray, List.set_cons_zero, List.set_cons_succ]); first | (obtain ⟨hcW, hfW⟩ := bcell hW; have hsW := hW.size; (try simp at hsW); (try have hsW0 := lt_of_succ_le hsW); (try (have hsW1 := lt_pred hsW; (try (have hsW2 := lt_pred hsW1)))); go_wp2_with fail; exact ⟨rfl, rfl, Below.refl _ _⟩))
              apply Exists.intro
              refine And.intro ?_ ?_
              · (intro W hW; (try simp only [Act.put, List.setIfInBounds_toArray, List.set_cons_zero, List.set_cons_succ]); first | (go_wp2_with fail; exact ⟨rfl, rfl, Below.refl _ _⟩))
              intro w1 hb
              (first | (have hcu2 := Cum.join hcu hb; (try clear hcu); (try clear hc); (try clear hfz); (try clear hsz); (try clear hs0); (try clear hs1); (try clear hs2); (try clear hs3); (try clear hs4); ) | have hcu2 := Cum.mk hb); have hcu := hcu2; clear hcu2; obtain ⟨hc, hfz⟩ := bcell hcu.h; have hsz := hcu.h.size; (try simp at hsz); (try have hs0 := lt_of_succ_le hsz); (try (have hs1 := lt_pred hsz; (try (have hs2 := lt_pred hs1; (try (have hs3 := lt_pred hs2; (try have hs4 := lt_pred hs3)))))))
              (try simp only [Act.put, List.setIfInBounds_toArray, List.set_cons_zero, List.set_cons_succ])
              (try simp only [List.drop_succ_cons, List.drop_nil])
              have Bq := hAs.trans (Aside.of_below hb)
              have HR3 := Lib.hid (HR2.out.below hb)
              have hfw : ∀ o, w1.frozen? ⟨g, o, none⟩ = false := (by intro o; obtain ⟨-, -, -, -, cur9, hg9, -⟩ := HR3.out.at encS_len; exact frozen_row hg9 o)
              have hkL := Lib.hid (show kk < L.length by rw [hLl.out]; omega)
              first
                | (have heq : eqS x y = true := q9
                   have HI2 := Lib.hid (HI.out.skip HE.out (show l[k + k2 - 1]? = some y from Hy.out) Hx.out heq)
                   go_wp2_with fail
                   go_roundw
                   case rel => exact ⟨kk, k2 + 1, L, rfl, by go_num, by omega, by omega, HI2.out, HR3.out, Bq⟩
                   case measure => simp [intOf]; omega)
                | (have hne : eqS x y = false := q9
                   have HI2 := Lib.hid (HI.out.keep HE.out (show l[k + k2 - 1]? = some y from Hy.out) Hx.out hne)
                   have hr4 := HR3.out.store encS_len (by decide) hkL.out (x := x)
                   rw [Nat.mul_one] at hr4
                   have HR4 := Lib.hid hr4
                   clear hr4
                   clear q1 q9
                   go_wp2_with fail
                   go_roundw
                   case rel => exact ⟨kk + 1, k2 + 1, L.set kk x, by go_num, by go_num, by omega, by omega, HI2.out, HR4.out, Bq.trans (aside_setCells (S := fun b => b = g) (g := g) rfl (encS x) kk _)⟩
                   case measure => simp [intOf]; omega)
          · have hend : k + k2 = l.length := by omega
            have hkl : kk < l.length := by omega
            have hks : kk * 1 + (l.length - kk) * 1 = l.length * 1 := by omega
            obtain ⟨zs, hzl, hcl⟩ := run_clear_row (P := Try.prog) wr 94 9 (.string ⟨#[]⟩) 1 Try.underlying94 (fun _ => by kernel_rfl) rfl (by decide) g (kk * 1) (l.length - kk) (cap - kk) (by omega) (fun j hj => by rw [cell_of_row _ g _ cur _ _ hg, Array.getElem?_eq_getElem (by omega)]; rfl) (fun j _ => hfz _)
            have HI2 := Lib.hid (show (compB eqS l).length = kk ∧ L.take kk = compB eqS l by have a := hI.len hle; have b := hI.low; rw [hend, List.take_length] at a b; exact ⟨a, b⟩)
            rw [Nat.mul_one] at hcl
            have hr4 := hRw.cut (zs := zs) encS_len (show kk ≤ L.length by rw [hLl.out]; omega)
            rw [Nat.mul_one] at hr4
            have HR4 := Lib.hid hr4
            clear hr4
            have e6 : (kk : Int) ≤ l.length := by omega
            have e7 : (0 : Int) ≤ kk := by omega
            have e8 : (kk : Int) ≤ cap := by omega
            have e9 : ¬ (k2 : Int) < l.length - k := by omega
            have HH := Lib.hid hend
            clear hI hRw hrow hg hcs hzl hks hend
            go_wp2_with fail
            go_ret
            exact ⟨some ⟨g, 0, none⟩, cap, ⟨rfl, rfl⟩, by rw [HI2.out.1]; rfl, by rw [HI2.out.1, ← HI2.out.2]; exact HR4.out, (hAs.trans (aside_setCells (S := fun b => b = g) (g := g) rfl zs kk _)).mono (fun b hb => by subst hb; rfl)⟩
      · obtain rfl : k = l.length := by omega
        have HF := Lib.hid (show compB eqS l = l by unfold FixB at hfix; rw [List.take_length] at hfix; exact hfix)
        have hnn : ¬ (l.length : Int) < l.length := by omega
        go_wp2_with fail
        go_ret
        exact ⟨some ⟨g, 0, none⟩, cap, ⟨rfl, rfl⟩, by rw [HF.out]; rfl, by rw [HF.out]; exact H.out.below hbw, Aside.of_below hbw⟩
end Go.Proofs.Ytmhlnbihppojmaa
