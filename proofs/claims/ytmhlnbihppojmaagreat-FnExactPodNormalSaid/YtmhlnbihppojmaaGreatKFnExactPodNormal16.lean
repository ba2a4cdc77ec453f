/- Written by wip/tools/pack.py: the texts that FnExactPodNormal needs, without what it does not need. No conditions. -/
import Derived.Test.YtmhlnbihppojmaaGreatKFnExactPodNormal4
import Derived.Test.YtmhlnbihppojmaaGreatKFnExactPodNormal5
import Derived.Test.YtmhlnbihppojmaaGreatKFnExactPodNormal15
import Derived.Test.YtmhlnbihppojmaaGreatKFnExactPodNormal13
import Derived.Test.YtmhlnbihppojmaaGreatKFnExactPodNormal3
import Derived.Lib.LazyBuf
namespace Go.Proofs.YtmhlnbihppojmaaGreat
open Go.RowKit
set_option maxHeartbeats 4000000 in
set_option maxRecDepth 10000 in
theorem c_Compact_Str (l : List ByteArray) (v : Value) (base : Nat) (w : World) (h : RowE encS 1 9 base w l v) (hn : l.length ≤ 1048576) :
    Calls Tryz.prog 41 #[v] w fun e w' => ∃ A c, v = .slice A l.length c ∧ e = .returned (.slice A (compB eqS l).length c) ∧ RowE encS 1 9 base w' (compB eqS l) (.slice A (compB eqS l).length c) ∧ Aside (fun b => v.ownBlock = some b) w w' := by
  have HE := Lib.hid tot_S.eq
  have H := Lib.hid h
  by_cases h2 : l.length < 2
  · obtain ⟨A, c, rfl⟩ := h.form
    have HS := Lib.hid (compB_short eqS h2)
    have h2i : (l.length : Int) < 2 := by omega
    clear h
    go_enter Tryz.func41, Tryz.ntmps41
    go_wp2_with fail
    go_ret
    exact ⟨A, c, rfl, by rw [HS.out]; rfl, by rw [HS.out]; exact H.out, Aside.refl _ _⟩
  · obtain ⟨g, cap, cur, rfl, -, hg, hlc, hc63, -, -⟩ := h.row encS_len (by omega)
    have hgl := row_lt hg
    have h2i : ¬ (l.length : Int) < 2 := by omega
    clear h hg
    go_enter Tryz.func41, Tryz.ntmps41
    go_wp2_with fail
    go_loopw [3] (fun s3 wr => ∃ k : Nat, 1 ≤ k ∧ k ≤ l.length ∧ s3 = .int .i64 k ∧ Below w.heap.size w wr ∧ FixB eqS l k) (fun s3 _ => l.length - (intOf s3).toNat)
    case atStart => exact ⟨1, Nat.le_refl _, by omega, rfl, Below.refl _ _, compB_short eqS (by rw [List.length_take]; omega)⟩
    case round =>
      obtain ⟨k, hk1, hk, rfl, hbw, hfix⟩ := hrel
      by_cases hlt : k < l.length
      · obtain ⟨-, -, -, -, cur, hg, -, hrow⟩ := (H.out.below hbw).at encS_len
        obtain ⟨x, hx⟩ := exists_at hlt
        obtain ⟨y, hy⟩ := exists_at (show k - 1 < l.length by omega)
        have hx0 : wr.cell? ⟨g, k, none⟩ = some (.string x) := by rw [cell_of_row _ g _ cur _ _ hg]; have h9 := hrow k x hx 0 (by decide); simp only [Nat.mul_one, Nat.add_zero] at h9; exact h9
        have hy0 : wr.cell? ⟨g, (k - 1), none⟩ = some (.string y) := by rw [cell_of_row _ g _ cur _ _ hg]; have h9 := hrow (k - 1) y hy 0 (by decide); simp only [Nat.mul_one, Nat.add_zero] at h9; exact h9
        have hgl2 := row_lt hg
        have hk0 : (0 : Int) ≤ k := by omega
        have hk1' : (1 : Int) ≤ k := by omega
        have hk2 : (k : Int) < l.length := by omega
        have hk3 : (k : Int) - 1 < l.length := by omega
        have hkc : (k : Int) ≤ cap := by omega
        have Hx := Lib.hid hx
        have Hy := Lib.hid hy
        clear hx hy hrow hg
        go_wp2_with fail
        rcases q1 : (x.toList == y.toList) with _ | _
        all_goals have q9 : eqS x y = (x.toList == y.toList) := rfl
        all_goals rw [q1] at q9
        all_goals
          refine wp_region_det 10 (by kernel_rfl) (by kernel_rfl) (by decide) ?_
          apply Exists.intro
          refine And.intro ?_ ?_
          · (intro W hW; (try simp only [Act.put, List.setIfInBounds_toArray, List.set_cons_zero, List.set_cons_succ]); first | (go_wp2_with fail; exact ⟨rfl, rfl, Below.refl _ _⟩))
          apply Exists.intro
          refine And.intro ?_ ?_
          · (intro W hW; (try simp only [Act.put, List.setIfInBounds_toArray, List.set_cons_zero, List.set_cons_succ]); first | (go_wp2_with fail; exact ⟨rfl, rfl, Below.refl _ _⟩))
          apply Exists.intro
          refine And.intro ?_ ?_
          · (intro W hW; (try simp only [Act.put, List.setIfInBounds_toArray, List.set_cons_zero, List.set_cons_succ]); first | (go_wp2_with fail; exact ⟨rfl, rfl, Below.refl _ _⟩))
          apply Exists.intro
          refine And.intro ?_ ?_
          · (intro W hW; (try simp only [Act.put, List.setIfInBounds_toArray, List.set_cons_zero, List.set_cons_succ]); first | (obtain ⟨hcW, hfW⟩ := bcell hW; have hsW := hW.size; (try simp at hsW); (try have hsW0 := lt_of_succ_le hsW); (try (have hsW1 := lt_pred hsW; (try (have hsW2 := lt_pred hsW1)))); go_wp2_with fail; exact ⟨rfl, rfl, Below.refl _ _⟩))
          apply Exists.intro
          refine And.intro ?_ ?_
          · (intro W hW; (try simp only [Act.put, List.setIfInBounds_toArray, List.set_cons_zero, List.set_cons_succ]); first | (go_wp2_with fail; exact ⟨rfl, rfl, Below.refl _ _⟩))
          apply Exists.intro
          refine And.intro ?_ ?_
          · (intro W hW; (try simp only [Act.put, List.setIfInBounds_toArray, List.set_cons_zero, List.set_cons_succ]); first | (go_wp2_with fail; exact ⟨rfl, rfl, Below.refl _ _⟩))
          apply Exists.intro
          refine And.intro ?_ ?_
          · (intro W hW; (try simp only [Act.put, List.setIfInBounds_toArray, List.set_cons_zero, List.set_cons_succ]); first | (go_wp2_with fail; exact ⟨rfl, rfl, Below.refl _ _⟩))
          apply Exists.intro
          refine And.intro ?_ ?_
          · (intro W hW; (try simp only [Act.put, List.setIfInBounds_toArray, List.set_cons_zero, List.set_cons_succ]); first | (go_wp2_with fail; exact ⟨rfl, rfl, Below.refl _ _⟩))
          apply Exists.intro
          refine And.intro ?_ ?_
          · (intro W hW; (try simp only [Act.put, List.setIfInBounds_toArray, List.set_cons_zero, List.set_cons_succ]); first | (obtain ⟨hcW, hfW⟩ := bcell hW; have hsW := hW.size; (try simp at hsW); (try have hsW0 := lt_of_succ_le hsW); (try (have hsW1 := lt_pred hsW; (try (have hsW2 := lt_pred hsW1)))); go_wp2_with fail; exact ⟨rfl, rfl, Below.refl _ _⟩))
          apply Exists.intro
          refine And.intro ?_ ?_
          · (intro W hW; (try simp only [Act.put, List.setIfInBounds_toArray, List.set_cons_zero, List.set_cons_succ]); first | (go_wp2_with fail; exact ⟨rfl, rfl, Below.refl _ _⟩))
          intro w1 hb
          (first | (have hcu2 := Cum.join hcu hb; (try clear hcu); (try clear hc); (try clear hfz); (try clear hsz); (try clear hs0); (try clear hs1); (try clear hs2); (try clear hs3); (try clear hs4); ) | have hcu2 := Cum.mk hb); have hcu := hcu2; clear hcu2; obtain ⟨hc, hfz⟩ := bcell hcu.h; have hsz := hcu.h.size; (try simp at hsz); (try have hs0 := lt_of_succ_le hsz); (try (have hs1 := lt_pred hsz; (try (have hs2 := lt_pred hs1; (try (have hs3 := lt_pred hs2; (try have hs4 := lt_pred hs3)))))))
          (try simp only [Act.put, List.setIfInBounds_toArray, List.set_cons_zero, List.set_cons_succ])
          (try simp only [List.drop_succ_cons, List.drop_nil])
          have Bq := hbw.trans (hb.mono hbw.size)
          first
            | (have hne : eqS x y = false := q9
               have Hf := Lib.hid (show FixB eqS l (k + 1) by unfold FixB; unfold FixB at hfix; rw [compB_take HE.out hk1 Hy.out Hx.out, hne, hfix, List.take_add_one, Hx.out]; rfl)
               go_wp2_with fail
               go_roundw
               case rel => exact ⟨k + 1, by omega, by omega, by go_num, Bq, Hf.out⟩
               case measure => simp [intOf]; omega)
            | skip
        have hI0 := Lib.hid (CompL.start HE.out hk1 Hy.out Hx.out hfix q9)
        have HRow := Lib.hid (H.out.below Bq)
        have HAs : Aside (fun b => b = g) w w1 := Aside.of_below Bq
        clear q9 q1
        go_wp2_with fail
        go_loopw [3, 5] (fun s3 s5 wr => ∃ (kk k2 : Nat) (L : List ByteArray), s3 = .int .i64 kk ∧ s5 = .int .i64 k2 ∧ 1 ≤ k2 ∧ k + k2 ≤ l.length ∧ CompL eqS l (k + k2) kk L ∧ RowE encS 1 9 base wr L (.slice (some ⟨g, 0, none⟩) l.length cap) ∧ Aside (fun b => b = g) w wr) (fun _ s5 _ => l.length - k - (intOf s5).toNat)
        case atStart => exact ⟨k, 1, l, rfl, rfl, Nat.le_refl _, by omega, hI0.out, HRow.out, HAs⟩
        case round =>
          obtain ⟨kk, k2, L, rfl, rfl, h1, hle, hI, hRw, hAs⟩ := hrel
          have hkk := hI.lt
          have HI := Lib.hid hI
          have HR2 := Lib.hid hRw
          have hLl := Lib.hid hI.size
          obtain ⟨-, -, -, -, cur, hg, hcs, hrow⟩ := hRw.at encS_len
          have hfz : ∀ o, wr.frozen? ⟨g, o, none⟩ = false := fun o => frozen_row hg o
          have hgl3 := row_lt hg
          by_cases hlt2 : k + k2 < l.length
          · obtain ⟨x, hx⟩ := exists_at hlt2
            obtain ⟨y, hy⟩ := exists_at (show k + k2 - 1 < l.length by omega)
            obtain ⟨z, hz⟩ := exists_at (show kk < l.length by omega)
            have hxL := (hI.high (k + k2) (by omega)).trans hx
            have hyL := (hI.high (k + k2 - 1) (by omega)).trans hy
            have hzL := (hI.high kk (by omega)).trans hz
            have hx0 : wr.cell? ⟨g, k + k2, none⟩ = some (.string x) := by rw [cell_of_row _ g _ cur _ _ hg]; have h9 := hrow _ x hxL 0 (by decide); simp only [Nat.mul_one, Nat.add_zero] at h9; exact h9
            have hy0 : wr.cell? ⟨g, k + (k2 - 1), none⟩ = some (.string y) := by rw [cell_of_row _ g _ cur _ _ hg]; have h9 := hrow _ y hyL 0 (by decide); simp only [Nat.mul_one, Nat.add_zero] at h9; rw [show k + (k2 - 1) = k + k2 - 1 by omega]; exact h9
            have hz0 : wr.cell? ⟨g, kk, none⟩ = some (.string z) := by rw [cell_of_row _ g _ cur _ _ hg]; have h9 := hrow _ z hzL 0 (by decide); simp only [Nat.mul_one, Nat.add_zero] at h9; exact h9
            have e1 : (1 : Int) ≤ k2 := by omega
            have e2 : (k2 : Int) < l.length - k := by omega
            have e3 : (0 : Int) ≤ k2 := by omega
            have e4 : (k2 : Int) - 1 < l.length - k := by omega
            have e5 : k2 < l.length - k := by omega
            have e6 : (kk : Int) < l.length := by omega
            have e7 : (0 : Int) ≤ kk := by omega
            have Hx := Lib.hid hx
            have Hy := Lib.hid hy
            clear hx hy hz hxL hyL hzL hrow hg hcs hI hRw
            go_wp2_with fail
            rcases q1 : (x.toList == y.toList) with _ | _
            all_goals have q9 : eqS x y = (x.toList == y.toList) := rfl
            all_goals rw [q1] at q9
            all_goals
              refine wp_region_det 10 (by kernel_rfl) (by kernel_rfl) (by decide) ?_
              apply Exists.intro
              refine And.intro ?_ ?_
              · (intro W hW; (try simp only [Act.put, List.setIfInBounds_toArray, List.set_cons_zero, List.set_cons_succ]); first | (go_wp2_with fail; exact ⟨rfl, rfl, Below.refl _ _⟩))
              apply Exists.intro
              refine And.intro ?_ ?_
              · (intro W hW; (try simp only [Act.put, List.setIfInBounds_toArray, List.set_cons_zero, List.set_cons_succ]); first | (go_wp2_with fail; exact ⟨rfl, rfl, Below.refl _ _⟩))
              apply Exists.intro
              refine And.intro ?_ ?_
              · (intro W hW; (try simp only [Act.put, List.setIfInBounds_toArray, List.set_cons_zero, List.set_cons_succ]); first | (go_wp2_with fail; exact ⟨rfl, rfl, Below.refl _ _⟩))
              apply Exists.intro
              refine And.intro ?_ ?_
              · (intro W hW; (try simp only [Act.put, List.setIfInBounds_toArray, List.set_cons_zero, List.set_cons_succ]); first | (obtain ⟨hcW, hfW⟩ := bcell hW; have hsW := hW.size; (try simp at hsW); (try have hsW0 := lt_of_succ_le hsW); (try (have hsW1 := lt_pred hsW; (try (have hsW2 := lt_pred hsW1)))); go_wp2_with fail; exact ⟨rfl, rfl, Below.refl _ _⟩))
              apply Exists.intro
              refine And.intro ?_ ?_
              · (intro W hW; (try simp only [Act.put, List.setIfInBounds_toArray, List.set_cons_zero, List.set_cons_succ]); first | (go_wp2_with fail; exact ⟨rfl, rfl, Below.refl _ _⟩))
              apply Exists.intro
              refine And.intro ?_ ?_
              · (intro W hW; (try simp only [Act.put, List.setIfInBounds_toArray, List.set_cons_zero, List.set_cons_succ]); first | (go_wp2_with fail; exact ⟨rfl, rfl, Below.refl _ _⟩))
              apply Exists.intro
              refine And.intro ?_ ?_
              · (intro W hW; (try simp only [Act.put, List.setIfInBounds_toArray, List.set_cons_zero, List.set_cons_succ]); first | (go_wp2_with fail; exact ⟨rfl, rfl, Below.refl _ _⟩))
              apply Exists.intro
              refine And.intro ?_ ?_
              · (intro W hW; (try simp only [Act.put, List.setIfInBounds_toArray, List.set_cons_zero, List.set_cons_succ]); first | (go_wp2_with fail; exact ⟨rfl, rfl, Below.refl _ _⟩))
              apply Exists.intro
              refine And.intro ?_ ?_
              · (intro W hW; (try simp only [Act.put, List.setIfInBounds_toArray, List.set_cons_zero, List.set_cons_succ]); first | (obtain ⟨hcW, hfW⟩ := bcell hW; have hsW := hW.size; (try simp at hsW); (try have hsW0 := lt_of_succ_le hsW); (try (have hsW1 := lt_pred hsW; (try (have hsW2 := lt_pred hsW1)))); go_wp2_with fail; exact ⟨rfl, rfl, Below.refl _ _⟩))
              apply Exists.intro
              refine And.intro ?_ ?_
              · (intro W hW; (try simp only [Act.put, List.setIfInBounds_toArray, List.set_cons_zero, List.set_cons_succ]); first | (go_wp2_with fail; exact ⟨rfl, rfl, Below.refl _ _⟩))
              intro w1 hb
              (first | (have hcu2 := Cum.join hcu hb; (try clear hcu); (try clear hc); (try clear hfz); (try clear hsz); (try clear hs0); (try clear hs1); (try clear hs2); (try clear hs3); (try clear hs4); ) | have hcu2 := Cum.mk hb); have hcu := hcu2; clear hcu2; obtain ⟨hc, hfz⟩ := bcell hcu.h; have hsz := hcu.h.size; (try simp at hsz); (try have hs0 := lt_of_succ_le hsz); (try (have hs1 := lt_pred hsz; (try (have hs2 := lt_pred hs1; (try (have hs3 := lt_pred hs2; (try have hs4 := lt_pred hs3)))))))
              (try simp only [Act.put, List.setIfInBounds_toArray, List.set_cons_zero, List.set_cons_succ])
              (try simp only [List.drop_succ_cons, List.drop_nil])
              have Bq := hAs.trans (Aside.of_below hb)
              have HR3 := Lib.hid (HR2.out.below hb)
              have hfw : ∀ o, w1.frozen? ⟨g, o, none⟩ = false := (by intro o; obtain ⟨-, -, -, -, cur9, hg9, -⟩ := HR3.out.at encS_len; exact frozen_row hg9 o)
              have hkL := Lib.hid (show kk < L.length by rw [hLl.out]; omega)
              first
                | (have heq : eqS x y = true := q9
                   have HI2 := Lib.hid (HI.out.skip HE.out (show l[k + k2 - 1]? = some y from Hy.out) Hx.out heq)
                   go_wp2_with fail
                   go_roundw
                   case rel => exact ⟨kk, k2 + 1, L, rfl, by go_num, by omega, by omega, HI2.out, HR3.out, Bq⟩
                   case measure => simp [intOf]; omega)
                | (have hne : eqS x y = false := q9
                   have HI2 := Lib.hid (HI.out.keep HE.out (show l[k + k2 - 1]? = some y from Hy.out) Hx.out hne)
                   have hr4 := HR3.out.store encS_len (by decide) hkL.out (x := x)
                   rw [Nat.mul_one] at hr4
                   have HR4 := Lib.hid hr4
                   clear hr4
                   clear q1 q9
                   go_wp2_with fail
                   go_roundw
                   case rel => exact ⟨kk + 1, k2 + 1, L.set kk x, by go_num, by go_num, by omega, by omega, HI2.out, HR4.out, Bq.trans (aside_setCells (S := fun b => b = g) (g := g) rfl (encS x) kk _)⟩
                   case measure => simp [intOf]; omega)
          · have hend : k + k2 = l.length := by omega
            have hkl : kk < l.length := by omega
            have hks : kk * 1 + (l.length - kk) * 1 = l.length * 1 := by omega
            obtain ⟨zs, hzl, hcl⟩ := run_clear_row (P := Tryz.prog) wr 29 9 (.string ⟨#[]⟩) 1 Tryz.underlying29 (fun _ => by kernel_rfl) rfl (by decide) g (kk * 1) (l.length - kk) (cap - kk) (by omega) (fun j hj => by rw [cell_of_row _ g _ cur _ _ hg, Array.getElem?_eq_getElem (by omega)]; rfl) (fun j _ => hfz _)
            have HI2 := Lib.hid (show (compB eqS l).length = kk ∧ L.take kk = compB eqS l by have a := hI.len hle; have b := hI.low; rw [hend, List.take_length] at a b; exact ⟨a, b⟩)
            rw [Nat.mul_one] at hcl
            have hr4 := hRw.cut (zs := zs) encS_len (show kk ≤ L.length by rw [hLl.out]; omega)
            rw [Nat.mul_one] at hr4
            have HR4 := Lib.hid hr4
            clear hr4
            have e6 : (kk : Int) ≤ l.length := by omega
            have e7 : (0 : Int) ≤ kk := by omega
            have e8 : (kk : Int) ≤ cap := by omega
            have e9 : ¬ (k2 : Int) < l.length - k := by omega
            have HH := Lib.hid hend
            clear hI hRw hrow hg hcs hzl hks hend
            go_wp2_with fail
            go_ret
            exact ⟨some ⟨g, 0, none⟩, cap, ⟨rfl, rfl⟩, by rw [HI2.out.1]; rfl, by rw [HI2.out.1, ← HI2.out.2]; exact HR4.out, (hAs.trans (aside_setCells (S := fun b => b = g) (g := g) rfl zs kk _)).mono (fun b hb => by subst hb; rfl)⟩
      · obtain rfl : k = l.length := by omega
        have HF := Lib.hid (show compB eqS l = l by unfold FixB at hfix; rw [List.take_length] at hfix; exact hfix)
        have hnn : ¬ (l.length : Int) < l.length := by omega
        go_wp2_with fail
        go_ret
        exact ⟨some ⟨g, 0, none⟩, cap, ⟨rfl, rfl⟩, by rw [HF.out]; rfl, by rw [HF.out]; exact H.out.below hbw, Aside.of_below hbw⟩
end Go.Proofs.YtmhlnbihppojmaaGreat
namespace Go.Proofs.YtmhlnbihppojmaaGreat
open Go.RowKit
theorem apart_sub {L M : List NeedV} (h : ApartN M) (hs : L.Sublist M) : ApartN L := List.Pairwise.sublist hs h
theorem apart_perm {L M : List NeedV} (h : ApartN M) (hs : L.Perm M) : ApartN L := by
  unfold ApartN at *
  exact (hs.pairwise_iff (fun {x y} hxy q h1 h2 => hxy q h2 h1)).2 h
theorem apart_at {L : List NeedV} (h : ApartN L) {i j : Nat} {x y : NeedV} (hi : L[i]? = some x) (hj : L[j]? = some y) (hij : i ≠ j) {q : Nat} (hq : x.blk = some q) : y.blk ≠ some q := by
  unfold ApartN at h
  rw [List.pairwise_iff_getElem] at h
  obtain ⟨hi1, rfl⟩ := List.getElem?_eq_some_iff.1 hi
  obtain ⟨hj1, rfl⟩ := List.getElem?_eq_some_iff.1 hj
  rcases Nat.lt_or_gt_of_ne hij with hlt | hgt
  · exact h i j hi1 hj1 hlt q hq
  · exact fun h2 => h j i hj1 hi1 hgt q h2 hq
theorem apart_set {L : List NeedV} {k : Nat} {x y : NeedV} (h : ApartN L) (hx : L[k]? = some x) (hy : y.blk = x.blk) : ApartN (L.set k y) := by
  have hk : k < L.length := (List.getElem?_eq_some_iff.1 hx).1
  unfold ApartN
  rw [List.pairwise_iff_getElem]
  intro i j hi hj hij q h1 h2
  rw [List.length_set] at hi hj
  have gi := List.getElem?_eq_getElem (l := L) hi
  have gj := List.getElem?_eq_getElem (l := L) hj
  rw [List.getElem_set] at h1 h2
  by_cases e1 : k = i
  · rw [if_pos e1] at h1
    rw [if_neg (by omega)] at h2
    rw [hy] at h1
    exact apart_at h hx gj (by omega) h1 h2
  · rw [if_neg e1] at h1
    by_cases e2 : k = j
    · rw [if_pos e2] at h2
      rw [hy] at h2
      exact apart_at h gi hx (by omega) h1 h2
    · rw [if_neg e2] at h2
      exact apart_at h gi gj (by omega) h1 h2
theorem alln_set {base k : Nat} {w w' : World} {L : List NeedV} {x y : NeedV} (h : AllN base w L) (hap : ApartN L) (hx : L[k]? = some x) (hs : Aside (fun b => x.blk = some b) w w') (hy : OwnN base w' y) : AllN base w' (L.set k y) := by
  intro z hz
  obtain ⟨i, hi⟩ := List.getElem?_of_mem hz
  by_cases e : k = i
  · subst e
    rw [List.getElem?_set_self (List.getElem?_eq_some_iff.1 hx).1] at hi
    obtain rfl := Option.some.inj hi
    exact hy
  · rw [List.getElem?_set_ne e] at hi
    have hz2 := List.mem_of_getElem? hi
    exact (h z hz2).carry (fun q hq => hs.block q (World.ownsRow.lt (h z hz2).2.2.2 q hq).2 (fun e2 => apart_at hap hx hi e e2 hq))
theorem norm_set {l : List Need} {M : List NeedV} {k : Nat} {d : Need} {y : NeedV} (h : M.map (·.d) = (l.take k).map normN ++ l.drop k) (hd : l[k]? = some d) (hy : y.d = normN d) : (M.set k y).map (·.d) = (l.take (k + 1)).map normN ++ l.drop (k + 1) := by
  have hk := (List.getElem?_eq_some_iff.1 hd).1
  have hlt : ((l.take k).map normN).length = k := by rw [List.length_map, List.length_take]; omega
  rw [List.map_set, h, hy, List.set_append_right _ _ (by omega), hlt, Nat.sub_self, List.take_add_one, hd]
  have : l.drop k = d :: l.drop (k + 1) := by
    rw [List.drop_eq_getElem_cons hk]
    congr 1
    rw [List.getElem?_eq_getElem hk] at hd
    exact Option.some.inj hd
  rw [this, List.set_cons_zero]
  simp
set_option maxHeartbeats 4000000 in
set_option maxRecDepth 10000 in
theorem c_impl_SortNeeds (l : List Need) (v : Value) (w : World) (lo : Nat) (hs : Sl_Need lo w.heap.size w l v) (hn : l.length ≤ 1048576) (hv : ∀ d ∈ l, d.values.length ≤ 1048576) :
    Calls Tryz.prog 8 #[v] w fun e w' => ∃ (L : List NeedV) (A : Option Addr) (c : Nat), e = .returned (.tuple #[.slice A (sortNB l).1.length c, .bool (sortNB l).2]) ∧ L.map (·.d) = (sortNB l).1 ∧ RowE encN 3 31 w.heap.size w' L (.slice A (sortNB l).1.length c) ∧ AllN w.heap.size w' L ∧ ApartN L ∧ Below w.heap.size w w' := by
  have HS := Lib.hid hs
  have Hv := Lib.hid hv
  obtain ⟨A, c, rfl⟩ := hs.form
  clear hs hv
  by_cases h40 : (40 : Int) < l.length
  · have Hf := Lib.hid (show sortNB l = (l, false) by unfold sortNB; rw [if_pos (by omega)])
    go_enter Tryz.func8, Tryz.ntmps8
    go_wp2_with fail
    refine (c_impl_copyNeeds l _ _ _ HS.out hn Hv.out).mono ?_
    rintro e w1 ⟨L, B, b, rfl, hL, hR, hN, hA, hb⟩
    go_wp2_with fail
    go_ret2
    exact ⟨L, B, b, by rw [Hf.out]; rfl, by rw [Hf.out]; exact hL, by rw [Hf.out]; exact hR, hN, hA, hb⟩
  · have h40n : ¬ 40 < l.length := by omega
    have H40 := Lib.hid h40n
    clear h40n
    go_enter Tryz.func8, Tryz.ntmps8
    go_wp2_with fail
    refine (c_ContainsFunc_Need l _ _ _ HS.out).mono ?_
    rintro e w0 ⟨rfl, hb0⟩
    have HS0 := Lib.hid (Sl_Need.now HS.out hb0)
    have hs0 := hb0.size
    rcases hlg : longN l with _ | _
    · have Hlg := Lib.hid hlg
      clear hlg
      go_wp2_with fail
      refine (c_impl_copyNeeds l _ _ _ HS0.out hn Hv.out).mono ?_
      rintro e w1 ⟨L0, B, b, rfl, hL0, hR0, hN0, hA0, hb1⟩
      have HL0 := Lib.hid hL0
      have HR0 := Lib.hid (hR0.less hs0)
      have HN0 := Lib.hid (hN0.less hs0)
      have HA0 := Lib.hid hA0
      have B1 := ext_trans hb0 hb1
      have hs1 := B1.size
      clear hL0 hR0 hN0 hA0
      go_wp2_with fail
      go_loopw [19] (fun s19 wr => ∃ (k : Nat) (M : List NeedV), k ≤ l.length ∧ s19 = .int .i64 k ∧ M.map (·.d) = (l.take k).map normN ++ l.drop k ∧ RowE encN 3 31 w.heap.size wr M (.slice B l.length b) ∧ AllN w.heap.size wr M ∧ ApartN M ∧ Below w.heap.size w wr) (fun s19 _ => l.length - (intOf s19).toNat)
      case atStart => exact ⟨0, L0, Nat.zero_le _, rfl, by simpa using HL0.out, HR0.out, HN0.out, HA0.out, B1⟩
      case round =>
        obtain ⟨k, M, hk, rfl, hM, hR, hN, hA, hbr⟩ := hrel
        have HM := Lib.hid hM
        have HR := Lib.hid hR
        have HN := Lib.hid hN
        have HA := Lib.hid hA
        have hMl : M.length = l.length := by have := congrArg List.length hM; simp at this; omega
        clear hM hR hN hA
        by_cases hlt : k < l.length
        · obtain ⟨g, cap, cur, hvB, hbg, hg, hB1, hB2, -, hrow⟩ := HR.out.row encN_len (by omega)
          simp only [Value.slice.injEq] at hvB
          obtain ⟨rfl, -, rfl⟩ := hvB
          obtain ⟨x, hx⟩ := exists_at (l := M) (k := k) (by omega)
          have hxd : l[k]? = some x.d := by
            have h1 : (M.map (·.d))[k]? = some x.d := by rw [List.getElem?_map, hx]; rfl
            rw [HM.out, List.getElem?_append_right (by simp; omega)] at h1
            simp only [List.length_map, List.length_take, List.getElem?_drop] at h1
            rw [show k + (k - min k l.length) = k by omega] at h1
            exact h1
          have hx2 : wr.cell? ⟨g, k * 3 + 2, none⟩ = some (.slice x.A x.d.values.length x.c) := by rw [cell_of_row _ g _ cur _ _ hg]; exact hrow k x hx 2 (by decide)
          have hgl := row_lt hg
          have hfz : ∀ o, wr.frozen? ⟨g, o, none⟩ = false := fun o => frozen_row hg o
          have hk0 : (0 : Int) ≤ k := by omega
          have hk1 : (k : Int) < l.length := by omega
          have HX := Lib.hid (HN.out x (List.mem_of_getElem? hx))
          have hgx := Lib.hid (row_blk HN.out HR.out x (List.mem_of_getElem? hx))
          have Hx := Lib.hid hx
          have Hxd := Lib.hid hxd
          have hvx := Hv.out x.d (List.mem_of_getElem? hxd)
          clear hx hxd hrow
          go_wp2_with fail
          refine (c_slices_SortS x.d.values _ _ _ HX.out.2.2.2 hvx).mono ?_
          rintro e w2 ⟨vs, rfl, hvl, hvm, hvp, hR2, has2⟩
          have HE := Lib.hid (comp_is_ord tot_S hvp hvm)
          have has2' : Aside (fun b => x.blk = some b) wr w2 := has2
          have hg2 := (has2'.block g hgl (fun e => hgx.out g e rfl)).trans hg
          have hR2' : RowE encS 1 9 w.heap.size w2 vs (.slice x.A vs.length x.c) := by rw [hvl]; exact hR2
          have HR2 := Lib.hid hR2'
          have Hvl := Lib.hid hvl
          have Hvm := Lib.hid hvm
          have Has2 := Lib.hid has2'
          have hc2 : w2.cell? ⟨g, k * 3 + 2, none⟩ = some (.slice x.A vs.length x.c) := by
            rw [World.cell?_of_block (has2'.block g hgl (fun e => hgx.out g e rfl)), hx2, hvl]
          have hfz2 : ∀ o, w2.frozen? ⟨g, o, none⟩ = false := fun o => frozen_row hg2 o
          have hgl2 := row_lt hg2
          clear hx2 hfz hvp hR2 has2 has2' hvl hvm hR2' hg
          go_wp2_with fail
          refine (c_Compact_Str vs _ _ _ HR2.out (by rw [Hvl.out]; exact hvx)).mono ?_
          rintro e w3 ⟨A3, c3, hv3, rfl, hR3, has3⟩
          simp only [Value.slice.injEq, true_and] at hv3
          obtain ⟨rfl, rfl⟩ := hv3
          rw [HE.out] at hR3 ⊢
          have hblk3 : ∀ n : Nat, (Value.slice x.A n x.c).ownBlock = x.blk := fun n => by unfold NeedV.blk; cases x.A <;> rfl
          have has3' : Aside (fun b => x.blk = some b) w2 w3 := has3.mono (fun b hb => by rw [hblk3] at hb; exact hb)
          have has := Has2.out.trans has3'
          have hne : ∀ q, x.blk = some q → q ≠ g := hgx.out
          have hg3 := (has3'.block g hgl2 (fun e => hne g e rfl)).trans hg2
          have hvals : ordB lessS eqS x.d.values = valsB x.d.values := rfl
          have hyN : OwnN w.heap.size w3 ⟨normN x.d, x.A, x.c⟩ := ⟨HX.out.1, HX.out.2.1, fun s hs => HX.out.2.2.1 s ((ordB_all tot_S x.d.values).2 s |>.1 hs), hR3⟩
          have hN3 := alln_set HN.out HA.out Hx.out has hyN
          have hAp3 := apart_set (y := ⟨normN x.d, x.A, x.c⟩) HA.out Hx.out (hblk3 _)
          have hRm : RowE encN 3 31 w.heap.size w3 M (.slice (some ⟨g, 0, none⟩) l.length b) := HR.out.carry (fun q hq => has.block q (World.ownsRow.lt HR.out q hq).2 (fun e => hne q e (by simpa [Value.ownBlock] using hq.symm)))
          have hP := hRm.poke (j := 2) (u := .slice x.A (ordB lessS eqS x.d.values).length x.c) (y := ⟨normN x.d, x.A, x.c⟩) encN_len (by decide) Hx.out (by decide) rfl
          have hfz3 : ∀ o, w3.frozen? ⟨g, o, none⟩ = false := fun o => frozen_row hg3 o
          have hgl3 := row_lt hg3
          obtain ⟨u9, hu9⟩ : ∃ u, w3.cell? ⟨g, k * 3 + 2, none⟩ = some u := ⟨_, by rw [World.cell?_of_block (has3'.block g hgl2 (fun e => hne g e rfl))]; exact hc2⟩
          have HP := Lib.hid hP
          have HNf := Lib.hid (show AllN w.heap.size (w3.setCell ⟨g, k * 3 + 2, none⟩ (.slice x.A (ordB lessS eqS x.d.values).length x.c)) (M.set k ⟨normN x.d, x.A, x.c⟩) from fun z hz => (hN3 z hz).carry (fun q hq => Below.heap_setCell w3 ⟨g, k * 3 + 2, none⟩ _ q (by
            have h9 := row_blk hN3 hRm z hz q hq
            exact h9)))
          have HApf := Lib.hid hAp3
          have HMf := Lib.hid (norm_set (y := ⟨normN x.d, x.A, x.c⟩) HM.out Hxd.out rfl)
          have hb3 : Below w.heap.size w w3 := hbr.trans (has.below hbr.size (fun b hb => (World.ownsRow.lt HX.out.2.2.2 b hb).1))
          have hbF : Below w.heap.size w (w3.setCell ⟨g, k * 3 + 2, none⟩ (.slice x.A (ordB lessS eqS x.d.values).length x.c)) := hb3.setCell (p := ⟨g, k * 3 + 2, none⟩) hbg _
          clear hP hN3 hAp3 hRm hyN has has3 has3' hR3 hg2 hg3 hvals hc2 hfz2
          go_wp2_with fail
          go_roundw
          case rel => exact ⟨k + 1, _, by omega, by go_num, HMf.out, HP.out, HNf.out, HApf.out, hbF⟩
          case measure => simp [intOf]; omega
        · obtain rfl : k = l.length := by omega
          have HMf := Lib.hid (show M.map (·.d) = l.map normN by have := HM.out; rw [List.take_length, List.drop_eq_nil_of_le (Nat.le_refl _), List.append_nil] at this; exact this)
          go_wp2_with fail
          refine (c_SortFunc_Need M _ w.heap.size _ HR.out HN.out (by omega)).mono ?_
          rintro e w2 ⟨M2, rfl, hp2, hs2, hR2, hN2, has2⟩
          have hb2 : Below w.heap.size w w2 := hbr.trans (has2.below hbr.size (fun b hb => (World.ownsRow.lt HR.out b hb).1))
          have HE := Lib.hid (show ordN l = (compF eqV M2).map (·.d) by
            have h1 := comp_is_ord tot_N (l := l.map normN) hs2 (fun x => by rw [← HMf.out]; exact (hp2.map (·.d)).mem_iff)
            rw [compB_compF tot_N.eq, ← compF_map eqN (fun x : NeedV => x.d) M2] at h1
            exact h1.symm)
          have hM2l : M2.length = l.length := by rw [hp2.length_eq, hMl]
          have HA2 := Lib.hid (apart_sub (apart_perm HA.out hp2) (compF_sub eqV M2))
          have HN2 := Lib.hid hN2
          have HR2 := Lib.hid hR2
          clear hp2 hs2 hR2 hN2 has2
          go_wp2_with fail
          refine (c_CompactFunc_Need M2 _ w.heap.size _ HR2.out HN2.out (by omega)).mono ?_
          rintro e w3 ⟨A3, c3, rfl, hR3, hN3, has3⟩
          have hb3 : Below w.heap.size w w3 := hb2.trans (has3.below hb2.size (fun b hb => (World.ownsRow.lt HR2.out b hb).1))
          obtain ⟨O, hO⟩ : ∃ O, O = compF eqV M2 := ⟨_, rfl⟩
          have HO := Lib.hid (show ordN l = O.map (·.d) by rw [hO]; exact HE.out)
          have HAO := Lib.hid (show ApartN O by rw [hO]; exact HA2.out)
          rw [← hO] at hR3 hN3 ⊢
          have HR3 := Lib.hid hR3
          have HN3 := Lib.hid hN3
          have HSl := Lib.hid (row_needs hR3 hN3)
          have HOl := Lib.hid (show O.length = (ordN l).length by rw [HO.out, List.length_map])
          clear hR3 hN3 has3 hO
          go_wp2_with fail
          refine (c_impl_SelectorOk (O.map (·.d)) _ _ _ HSl.out).mono ?_
          rintro e w4 ⟨rfl, hb4⟩
          rw [← HO.out]
          have B4 := hb3.trans (hb4.mono hb3.size)
          rcases hsb : selB (ordN l) with _ | _
          · have Hf := Lib.hid (show sortNB l = (l, false) by unfold sortNB; rw [if_neg H40.out, Hlg.out, hsb]; rfl)
            go_wp2_with fail
            refine (c_impl_copyNeeds l _ _ _ (Sl_Need.now HS.out B4) hn Hv.out).mono ?_
            rintro e w5 ⟨L5, A5, c5, rfl, hL5, hR5, hN5, hA5, hb5⟩
            have HL5 := Lib.hid hL5
            have HR5 := Lib.hid (hR5.less B4.size)
            have HN5 := Lib.hid (hN5.less B4.size)
            have B5 := B4.trans (hb5.mono B4.size)
            have HA5 := Lib.hid hA5
            clear hL5 hR5 hN5 hA5
            go_wp2_with fail
            go_ret2
            exact ⟨L5, A5, c5, by rw [Hf.out]; rfl, by rw [Hf.out]; exact HL5.out, by rw [Hf.out]; exact HR5.out, HN5.out, HA5.out, B5⟩
          · have Hf := Lib.hid (show sortNB l = (ordN l, true) by unfold sortNB; rw [if_neg H40.out, Hlg.out, hsb]; rfl)
            have HR5 := Lib.hid (HR3.out.below hb4)
            have HN5 := Lib.hid (HN3.out.below hb4)
            go_wp2_with fail
            go_ret2
            exact ⟨O, A3, c3, by rw [Hf.out, HOl.out]; rfl, by rw [Hf.out]; exact HO.out.symm, by rw [Hf.out]; show RowE _ _ _ _ _ _ (.slice A3 (ordN l).length c3); rw [← HOl.out]; exact HR5.out, HN5.out, HAO.out, B4⟩
    · have Hf := Lib.hid (show sortNB l = (l, false) by unfold sortNB; rw [if_neg H40.out, hlg]; rfl)
      go_wp2_with fail
      refine (c_impl_copyNeeds l _ _ _ HS0.out hn Hv.out).mono ?_
      rintro e w1 ⟨L, B, b, rfl, hL, hR, hN, hA, hb1⟩
      have HL := Lib.hid hL
      have HR := Lib.hid (hR.less hs0)
      have HN := Lib.hid (hN.less hs0)
      have HA := Lib.hid hA
      have B1 := ext_trans hb0 hb1
      clear hL hR hN hA
      go_wp2_with fail
      go_ret2
      exact ⟨L, B, b, by rw [Hf.out]; rfl, by rw [Hf.out]; exact HL.out, by rw [Hf.out]; exact HR.out, HN.out, HA.out, B1⟩
end Go.Proofs.YtmhlnbihppojmaaGreat
namespace Go.Proofs.YtmhlnbihppojmaaGreat
open Go.RowKit Go.Lib
def encTol (d : Tolerance) : List Value := [.string d.key, .bool d.equal, .string d.value, .int .i64 d.effect]
instance : Inhabited Taint := ⟨⟨⟨#[]⟩, ⟨#[]⟩, 0⟩⟩
instance : Inhabited Tolerance := ⟨⟨⟨#[]⟩, false, ⟨#[]⟩, 0⟩⟩
theorem encTol_len (d : Tolerance) : (encTol d).length = 4 := rfl
theorem encTol_one (d : Tolerance) : ∀ v ∈ encTol d, v.oneCell' = true := by intro u hu; simp [encTol] at hu; rcases hu with rfl | rfl | rfl | rfl <;> rfl
theorem encTol_C (d : Tolerance) (es : List Value) (h : C_Tolerance d es) : es = encTol d := h.1
set_option maxRecDepth 10000 in
theorem c_Clone_Tolerance (l : List Tolerance) (v : Value) (w : World) (lo : Nat) (hs : Sl_Tolerance lo w.heap.size w l v) (hn : l.length ≤ 1048576) :
    Calls Tryz.prog 125 #[v] w fun e w' => ∃ A c, e = .returned (.slice A l.length c) ∧ RowE encTol 4 106 w.heap.size w' l (.slice A l.length c) ∧ Below w.heap.size w w' := by
  obtain ⟨i0, hi, hz0, hz1, hz2⟩ := info_parts (show (Tryz.prog.info? 106).map (fun i => (i.zero, i.size, i.bytes)) = some (some (.agg #[.string ⟨#[]⟩, .bool false, .string ⟨#[]⟩, .int .i64 0]), 4, 48) from by kernel_rfl)
  have heq := fun (a : Option Addr) (n c : Nat) (w : World) => run_eql_slice_nil (P := Tryz.prog) w 42 106 a n c Tryz.underlying42
  have hs' := hs
  obtain ⟨A, c, rfl, hlc, hc, hA⟩ := hs
  rcases A with _ | ad
  · have hl0 : l = [] := by
      by_cases hp : 0 < l.length
      · obtain ⟨b, o, h, -⟩ := hA hp
        cases h
      · exact List.eq_nil_of_length_eq_zero (by omega)
    subst hl0
    clear hA
    go_enter Tryz.func125, Tryz.ntmps125
    go_wp2_with fail
    go_ret
    exact ⟨_, _, rfl, RowE.nil, bel⟩
  · clear hA
    have hb0 : Below w.heap.size w (w.alloc (.cells #[] 106)) := bel
    have Hs := Lib.hid (Sl_Tolerance.now hs' hb0)
    have Hown : RowE encTol 4 106 w.heap.size (w.alloc (.cells #[] 106)) [] (.slice (some ⟨w.heap.size, 0, none⟩) 0 0) := own_empty rfl (Nat.le_refl _)
    obtain ⟨v', w1, hr, hR, hgrow, hat⟩ := run_append_rows (P := Tryz.prog) (enc := encTol) (C := C_Tolerance) (w.alloc (.cells #[] 106)) 42 42 w.heap.size 106 i0 (.agg #[.string ⟨#[]⟩, .bool false, .string ⟨#[]⟩, .int .i64 0]) 4 48 Tryz.underlying42 hi hz0 hz1 hz2 rfl (by decide) encTol_len encTol_one encTol_C _ 0 [] rfl Hown l (some ad) l.length c lo _ rfl Hs.out (by unfold maxLen; omega) (by omega) (by simp)
    rw [List.nil_append] at hR
    obtain ⟨A', c', rfl⟩ := hR.form
    have HR := Lib.hid hR
    have Bw := Below.grown hb0 hgrow (by simp) (fun k hk => by simp [Value.ownBlock] at hk; omega)
    clear hR hgrow hat Hown
    go_enter Tryz.func125, Tryz.ntmps125
    go_wp2_with (at_builtin; refine wpList_append_of rfl (.tmp 5) (.tmp 6) 42 rfl _ _ _ w1 rfl rfl hr ?_)
    go_ret
    exact ⟨A', c', rfl, HR.out, Bw⟩
end Go.Proofs.YtmhlnbihppojmaaGreat
