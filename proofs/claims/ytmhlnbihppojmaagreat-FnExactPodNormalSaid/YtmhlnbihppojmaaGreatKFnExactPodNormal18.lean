/- Written by wip/tools/pack.py: the texts that FnExactPodNormal needs, without what it does not need. No conditions. -/
import Derived.Test.YtmhlnbihppojmaaGreatKFnExactPodNormal16
import Derived.Test.YtmhlnbihppojmaaGreatKFnExactPodNormal4
import Derived.Test.YtmhlnbihppojmaaGreatKFnExactPodNormal17
import Derived.Deep.RegionLaw
namespace Go.Proofs.YtmhlnbihppojmaaGreat
open Go.RowKit
def sortTolB (l : List Tolerance) : List Tolerance × Bool := if 40 < l.length then (l, false) else if tolsOkB (ordB lessTol eqTol l) then (ordB lessTol eqTol l, true) else (l, false)
theorem Tolerance_of_ord {l : List Tolerance} {lo hi : Nat} {w : World} {v : Value} (h : Sl_Tolerance lo hi w l v) : ∀ d ∈ l, C_Tolerance d (encTol d) := by
  intro d hd
  obtain ⟨A, c, rfl, -, -, hA⟩ := h
  obtain ⟨i, hi⟩ := List.getElem?_of_mem hd
  obtain ⟨b, o, -, -, -, hc⟩ := hA (by have := (List.getElem?_eq_some_iff.1 hi).1; omega)
  obtain ⟨es, -, -, h1⟩ := hc i d hi
  obtain rfl := encTol_C d es h1
  exact h1
theorem sortTolB_all {l : List Tolerance} (h : ∀ d ∈ l, C_Tolerance d (encTol d)) : (sortTolB l).1.length ≤ l.length ∧ ∀ d ∈ (sortTolB l).1, C_Tolerance d (encTol d) := by
  unfold sortTolB
  split
  · exact ⟨Nat.le_refl _, h⟩
  · split
    · exact ⟨ordB_len _ _ _, fun d hd => h d ((ordB_all tot_Tol l).2 d |>.1 hd)⟩
    · exact ⟨Nat.le_refl _, h⟩
set_option maxHeartbeats 8000000 in
set_option maxRecDepth 10000 in
theorem c_spec_SortTolerances (l : List Tolerance) (v : Value) (w : World) (lo : Nat) (hs : Sl_Tolerance lo w.heap.size w l v) (hn : l.length ≤ 1048576) :
    Calls Tryz.prog 59 #[v] w fun e w' => ∃ A c, e = .returned (.tuple #[.slice A (sortTolB l).1.length c, .bool (sortTolB l).2]) ∧ RowE encTol 4 106 w.heap.size w' (sortTolB l).1 (.slice A (sortTolB l).1.length c) ∧ Below w.heap.size w w' := by
  obtain ⟨i0, hi, hz0, hz1, hz2⟩ := info_parts (show (Tryz.prog.info? 106).map (fun i => (i.zero, i.size, i.bytes)) = some (some (.agg #[.string ⟨#[]⟩, .bool false, .string ⟨#[]⟩, .int .i64 0]), 4, 48) from by kernel_rfl)
  have hs' := hs
  have HCd := Lib.hid (Tolerance_of_ord hs)
  obtain ⟨A, c, rfl, hlc, hc, hA⟩ := hs
  have hb0 : Below w.heap.size w (w.alloc (.cells #[] 106)) := bel
  have Hs := Lib.hid (Sl_Tolerance.now hs' hb0)
  have Hown : RowE encTol 4 106 w.heap.size (w.alloc (.cells #[] 106)) [] (.slice (some ⟨w.heap.size, 0, none⟩) 0 0) := own_empty rfl (Nat.le_refl _)
  obtain ⟨v', w1, hr, hR, hgrow, hat⟩ := run_append_rows (P := Tryz.prog) (enc := encTol) (C := C_Tolerance) (w.alloc (.cells #[] 106)) 42 42 w.heap.size 106 i0 (.agg #[.string ⟨#[]⟩, .bool false, .string ⟨#[]⟩, .int .i64 0]) 4 48 Tryz.underlying42 hi hz0 hz1 hz2 rfl (by decide) encTol_len encTol_one encTol_C _ 0 [] rfl Hown l A l.length c lo _ rfl Hs.out (by unfold maxLen; omega) (by omega) (by simp)
  rw [List.nil_append] at hR
  obtain ⟨A', c', rfl⟩ := hR.form
  have HR := Lib.hid hR
  have Bw := Below.grown hb0 hgrow (by simp) (fun k hk => by simp [Value.ownBlock] at hk; omega)
  clear hR hgrow hat Hown
  by_cases h40 : (40 : Int) < l.length
  · have Hf := Lib.hid (show sortTolB l = (l, false) by unfold sortTolB; rw [if_pos (by omega)])
    go_enter Tryz.func59, Tryz.ntmps59
    go_wp2_with (at_builtin; refine wpList_append_of rfl (.tmp 9) (.tmp 10) 42 rfl _ _ _ w1 rfl rfl hr ?_)
    go_ret2
    exact ⟨A', c', by rw [Hf.out]; rfl, by rw [Hf.out]; exact HR.out, Bw⟩
  · go_enter Tryz.func59, Tryz.ntmps59
    go_wp2_with (at_builtin; refine wpList_append_of rfl (.tmp 9) (.tmp 10) 42 rfl _ _ _ w1 rfl rfl hr ?_)
    go_loopw [5, 6] (fun q i wr => ∃ (k : Nat) (g c5 : Nat), k ≤ l.length ∧ i = .int .i64 k ∧ q = .slice (some ⟨g, 0, none⟩) (ordB lessTol eqTol (l.take k)).length c5 ∧ RowE encTol 4 106 w1.heap.size wr (ordB lessTol eqTol (l.take k)) (.slice (some ⟨g, 0, none⟩) (ordB lessTol eqTol (l.take k)).length c5) ∧ Below w1.heap.size w1 wr) (fun _ i _ => l.length - (intOf i).toNat)
    case atStart => exact ⟨0, w1.heap.size, 0, Nat.zero_le _, rfl, rfl, own_empty rfl (by simp), bel⟩
    case round =>
      obtain ⟨k, g, c5, hk, rfl, rfl, hO, hbr⟩ := hrel
      obtain ⟨O, hOO⟩ : ∃ O, O = ordB lessTol eqTol (l.take k) := ⟨_, rfl⟩
      have hOl : O.length ≤ 40 := by have := ordB_len lessTol eqTol (l.take k); rw [List.length_take] at this; rw [hOO]; omega
      rw [← hOO] at hO
      have HOO := Lib.hid hOO
      rw [← hOO]
      clear hOO
      have Bwr : Below w.heap.size w wr := Bw.trans (hbr.mono Bw.size)
      have HO := Lib.hid hO
      clear hO
      by_cases hlt : k < l.length
      · obtain ⟨b, o, rfl, -, hb2, hcell⟩ := hA (by omega)
        obtain ⟨x, hx⟩ := exists_at hlt
        obtain ⟨es, -, hcs, hC⟩ := hcell k x hx
        have hC' := hC
        obtain rfl := encTol_C x es hC
        have hc0 := (Bwr.cell (p := ⟨b, o + k * 4 + 0, none⟩) (by simp; omega)).trans (hcs 0 (by omega))
        have hc1 := (Bwr.cell (p := ⟨b, o + k * 4 + 1, none⟩) (by simp; omega)).trans (hcs 1 (by omega))
        have hc2 := (Bwr.cell (p := ⟨b, o + k * 4 + 2, none⟩) (by simp; omega)).trans (hcs 2 (by omega))
        have hc3 := (Bwr.cell (p := ⟨b, o + k * 4 + 3, none⟩) (by simp; omega)).trans (hcs 3 (by omega))
        simp [encTol] at hc0 hc1 hc2 hc3
        have hbl : b < wr.heap.size := Nat.lt_of_lt_of_le hb2 Bwr.size
        have hk0 : (0 : Int) ≤ k := by omega
        have hk1 : (k : Int) < l.length := by omega
        have Hx := Lib.hid hx
        have HA := Lib.hid hA
        clear hcs hcell hA hx
        go_wp2_with fail
        go_loopw [7] (fun j wr2 => ∃ m : Nat, m ≤ placeB lessTol O x ∧ j = .int .i64 m ∧ Below wr.heap.size wr wr2) (fun j _ => O.length - (intOf j).toNat)
        case atStart => exact ⟨0, Nat.zero_le _, rfl, Below.refl _ _⟩
        case round =>
          obtain ⟨m, hm, rfl, hbm⟩ := hrel
          have hmO := placeB_le lessTol O x
          have hx0 := (hbm.cell (p := ⟨b, o + k * 4, none⟩) (by simpa using hbl)).trans hc0
          have hx1 := (hbm.cell (p := ⟨b, o + k * 4 + 1, none⟩) (by simpa using hbl)).trans hc1
          have hx2 := (hbm.cell (p := ⟨b, o + k * 4 + 2, none⟩) (by simpa using hbl)).trans hc2
          have hx3 := (hbm.cell (p := ⟨b, o + k * 4 + 3, none⟩) (by simpa using hbl)).trans hc3
          have hbl2 : b < wr.heap.size := Nat.lt_of_lt_of_le hbl hbm.size
          have hCO : ∀ d ∈ O, C_Tolerance d (encTol d) := fun d hd => HCd.out d (List.mem_of_mem_take ((ordB_all tot_Tol (l.take k)).2 d |>.1 (by rw [← HOO.out]; exact hd)))
          have HCO := Lib.hid hCO
          clear hCO
          by_cases hlt2 : m < O.length
          · obtain ⟨-, hgb, hcap, hcap2, cur, hg, -, hrow⟩ := HO.out.at encTol_len
            obtain ⟨y, hy⟩ := exists_at hlt2
            have hr0 := hrow m y hy 0 (by decide)
            have hr1 := hrow m y hy 1 (by decide)
            have hr2 := hrow m y hy 2 (by decide)
            have hr3 := hrow m y hy 3 (by decide)
            have hgl := row_lt hg
            have hg2 := (hbm.block g hgl).trans hg
            have hy0 : wr.cell? ⟨g, m * 4, none⟩ = some (.string y.key) := by rw [cell_of_row _ g _ cur _ _ hg2]; exact hr0
            have hy1 : wr.cell? ⟨g, m * 4 + 1, none⟩ = some (.bool y.equal) := by rw [cell_of_row _ g _ cur _ _ hg2]; exact hr1
            have hy2 : wr.cell? ⟨g, m * 4 + 2, none⟩ = some (.string y.value) := by rw [cell_of_row _ g _ cur _ _ hg2]; exact hr2
            have hy3 : wr.cell? ⟨g, m * 4 + 3, none⟩ = some (.int .i64 y.effect) := by rw [cell_of_row _ g _ cur _ _ hg2]; exact hr3
            have hgl2 := row_lt hg2
            have hm0 : (0 : Int) ≤ m := by omega
            have hm1 : (m : Int) < O.length := by omega
            have hCy : C_Tolerance y (encTol y) := HCO.out y (List.mem_of_getElem? hy)
            have Hy := Lib.hid hy
            clear hrow hr0 hr1 hr2 hr3 hy
            rcases hlt3 : lessTol y x with _ | _
            · have hpl := Lib.hid (placeB_is (lt := lessTol) (x := x) (l := O) (k := m) (by omega) (fun i d hi hd => placeB_lt lessTol x O i d (by omega) hd) (fun d hd => by rw [Hy.out] at hd; obtain rfl := Option.some.inj hd; exact hlt3))
              go_wp2_with fail
              refine wp_region_det 15 (by kernel_rfl) (by kernel_rfl) (by decide) ?_
              apply Exists.intro
              refine And.intro ?_ ?_
              · (intro W hW; (try simp only [Act.put, List.setIfInBounds_toArray, List.set_cons_zero, List.set_cons_succ]); first | (go_wp2_with fail; exact ⟨rfl, rfl, Below.refl _ _⟩))
              apply Exists.intro
              refine And.intro ?_ ?_
              · (intro W hW; (try simp only [Act.put, List.setIfInBounds_toArray, List.set_cons_zero, List.set_cons_succ]); first | (go_wp2_with fail; exact ⟨rfl, rfl, Below.refl _ _⟩))
              apply Exists.intro
              refine And.intro ?_ ?_
              · (intro W hW; (try simp only [Act.put, List.setIfInBounds_toArray, List.set_cons_zero, List.set_cons_succ]); first | (go_wp2_with fail; exact ⟨rfl, rfl, Below.refl _ _⟩))
              apply Exists.intro
              refine And.intro ?_ ?_
              · (intro W hW; (try simp only [Act.put, List.setIfInBounds_toArray, List.set_cons_zero, List.set_cons_succ]); first | (go_wp2_with fail; exact ⟨rfl, rfl, Below.refl _ _⟩))
              apply Exists.intro
              refine And.intro ?_ ?_
              · (intro W hW; (try simp only [Act.put, List.setIfInBounds_toArray, List.set_cons_zero, List.set_cons_succ]); first | (go_wp2_with fail; exact ⟨rfl, rfl, Below.refl _ _⟩))
              apply Exists.intro
              refine And.intro ?_ ?_
              · (intro W hW; (try simp only [Act.put, List.setIfInBounds_toArray, List.set_cons_zero, List.set_cons_succ]); first | (exact wpList_skip rfl ⟨rfl, rfl, Below.refl _ _⟩) | (go_wp2_with fail; exact ⟨rfl, rfl, Below.refl _ _⟩))
              apply Exists.intro
              refine And.intro ?_ ?_
              · (intro W hW; (try simp only [Act.put, List.setIfInBounds_toArray, List.set_cons_zero, List.set_cons_succ]); first | (exact wpList_skip rfl ⟨rfl, rfl, Below.refl _ _⟩) | (go_wp2_with fail; exact ⟨rfl, rfl, Below.refl _ _⟩))
              apply Exists.intro
              refine And.intro ?_ ?_
              · (intro W hW; (try simp only [Act.put, List.setIfInBounds_toArray, List.set_cons_zero, List.set_cons_succ]); first | (exact wpList_skip rfl ⟨rfl, rfl, Below.refl _ _⟩) | (go_wp2_with fail; exact ⟨rfl, rfl, Below.refl _ _⟩))
              apply Exists.intro
              refine And.intro ?_ ?_
              · (intro W hW; (try simp only [Act.put, List.setIfInBounds_toArray, List.set_cons_zero, List.set_cons_succ]); first | (exact wpList_skip rfl ⟨rfl, rfl, Below.refl _ _⟩) | (obtain ⟨hcW, hfW⟩ := bcell hW; have hsW := hW.size; (try simp at hsW); (try have hsW0 := lt_of_succ_le hsW); (try (have hsW1 := lt_pred hsW; (try (have hsW2 := lt_pred hsW1)))); go_wp2_with fail; exact ⟨rfl, rfl, Below.refl _ _⟩))
              apply Exists.intro
              refine And.intro ?_ ?_
              · (intro W hW; (try simp only [Act.put, List.setIfInBounds_toArray, List.set_cons_zero, List.set_cons_succ]); first | (exact wpList_skip rfl ⟨rfl, rfl, Below.refl _ _⟩) | (go_wp2_with fail; exact ⟨rfl, rfl, Below.refl _ _⟩))
              apply Exists.intro
              refine And.intro ?_ ?_
              · (intro W hW; (try simp only [Act.put, List.setIfInBounds_toArray, List.set_cons_zero, List.set_cons_succ]); first | (exact wpList_skip rfl ⟨rfl, rfl, Below.refl _ _⟩) | (go_wp2_with fail; exact ⟨rfl, rfl, Below.refl _ _⟩))
              apply Exists.intro
              refine And.intro ?_ ?_
              · (intro W hW; (try simp only [Act.put, List.setIfInBounds_toArray, List.set_cons_zero, List.set_cons_succ]); first | (exact wpList_skip rfl ⟨rfl, rfl, Below.refl _ _⟩) | (go_wp2_with fail; exact ⟨rfl, rfl, Below.refl _ _⟩))
              apply Exists.intro
              refine And.intro ?_ ?_
              · (intro W hW; (try simp only [Act.put, List.setIfInBounds_toArray, List.set_cons_zero, List.set_cons_succ]); first | (exact wpList_skip rfl ⟨rfl, rfl, Below.refl _ _⟩) | (obtain ⟨hcW, hfW⟩ := bcell hW; have hsW := hW.size; (try simp at hsW); (try have hsW0 := lt_of_succ_le hsW); (try (have hsW1 := lt_pred hsW; (try (have hsW2 := lt_pred hsW1)))); go_wp2_with fail; exact ⟨rfl, rfl, Below.refl _ _⟩))
              apply Exists.intro
              refine And.intro ?_ ?_
              · (intro W hW; (try simp only [Act.put, List.setIfInBounds_toArray, List.set_cons_zero, List.set_cons_succ]); first | (exact wpList_skip rfl ⟨rfl, rfl, Below.refl _ _⟩) | (obtain ⟨hcW, hfW⟩ := bcell hW; have hsW := hW.size; (try simp at hsW); (try have hsW0 := lt_of_succ_le hsW); (try (have hsW1 := lt_pred hsW; (try (have hsW2 := lt_pred hsW1)))); go_wp2_with (first | (go_at_call 117; refine (c_spec_l16Before y x _ _ _ hCy hC).mono ?_; rintro e w9 ⟨rfl, hb9⟩)); exact ⟨rfl, rfl, bel⟩))
              apply Exists.intro
              refine And.intro ?_ ?_
              · (intro W hW; (try simp only [Act.put, List.setIfInBounds_toArray, List.set_cons_zero, List.set_cons_succ]); first | (go_wp2_with fail; exact ⟨rfl, rfl, Below.refl _ _⟩))
              intro w1 hb
              (first | (have hcu2 := Cum.join hcu hb; (try clear hcu); (try clear hc); (try clear hfz); (try clear hsz); (try clear hs0); (try clear hs1); (try clear hs2); (try clear hs3); (try clear hs4); ) | have hcu2 := Cum.mk hb); have hcu := hcu2; clear hcu2; obtain ⟨hc, hfz⟩ := bcell hcu.h; have hsz := hcu.h.size; (try simp at hsz); (try have hs0 := lt_of_succ_le hsz); (try (have hs1 := lt_pred hsz; (try (have hs2 := lt_pred hs1; (try (have hs3 := lt_pred hs2; (try have hs4 := lt_pred hs3)))))))
              (try simp only [Act.put, List.setIfInBounds_toArray, List.set_cons_zero, List.set_cons_succ])
              (try simp only [List.drop_succ_cons, List.drop_nil])
              have ey0 := (hb.cell (p := ⟨g, m * 4, none⟩) (by simpa using hgl2)).trans hy0
              have ey1 := (hb.cell (p := ⟨g, m * 4 + 1, none⟩) (by simpa using hgl2)).trans hy1
              have ey2 := (hb.cell (p := ⟨g, m * 4 + 2, none⟩) (by simpa using hgl2)).trans hy2
              have ey3 := (hb.cell (p := ⟨g, m * 4 + 3, none⟩) (by simpa using hgl2)).trans hy3
              have ex0 := (hb.cell (p := ⟨b, o + k * 4, none⟩) (by simpa using hbl2)).trans hx0
              have ex1 := (hb.cell (p := ⟨b, o + k * 4 + 1, none⟩) (by simpa using hbl2)).trans hx1
              have ex2 := (hb.cell (p := ⟨b, o + k * 4 + 2, none⟩) (by simpa using hbl2)).trans hx2
              have ex3 := (hb.cell (p := ⟨b, o + k * 4 + 3, none⟩) (by simpa using hbl2)).trans hx3
              have egl := Nat.lt_of_lt_of_le hgl2 hb.size
              have ebl := Nat.lt_of_lt_of_le hbl2 hb.size
              have Bn := hbm.trans (hb.mono hbm.size)
              clear hy0 hy1 hy2 hy3 hx0 hx1 hx2 hx3 hc0 hc1 hc2 hc3 hgl2 hbl2 hcu hc hfz hg2 hb
              go_wp2_with fail
              refine comb (P := ?P1) (fun hP => ?_) ?_; rotate_left 1
              · skip
                rcases q1 : (y.key.toList == x.key.toList) with _ | _
                all_goals rcases q2 : (y.equal == x.equal) with _ | _
                all_goals rcases q3 : (y.value.toList == x.value.toList) with _ | _
                all_goals rcases q4 : (y.effect == x.effect) with _ | _
                all_goals have q9 : eqTol y x = ((y.key.toList == x.key.toList) && ((y.equal == x.equal) && ((y.value.toList == x.value.toList) && (y.effect == x.effect)))) := rfl
                all_goals rw [q1, q2, q3, q4] at q9
                all_goals
                  refine wp_region_det 15 (by kernel_rfl) (by kernel_rfl) (by decide) ?_
                  apply Exists.intro
                  refine And.intro ?_ ?_
                  · (intro W hW; (try simp only [Act.put, List.setIfInBounds_toArray, List.set_cons_zero, List.set_cons_succ]); first | (go_wp2_with fail; exact ⟨rfl, rfl, Below.refl _ _⟩))
                  apply Exists.intro
                  refine And.intro ?_ ?_
                  · (intro W hW; (try simp only [Act.put, List.setIfInBounds_toArray, List.set_cons_zero, List.set_cons_succ]); first | (go_wp2_with fail; exact ⟨rfl, rfl, Below.refl _ _⟩))
                  apply Exists.intro
                  refine And.intro ?_ ?_
                  · (intro W hW; (try simp only [Act.put, List.setIfInBounds_toArray, List.set_cons_zero, List.set_cons_succ]); first | (go_wp2_with fail; exact ⟨rfl, rfl, Below.refl _ _⟩))
                  apply Exists.intro
                  refine And.intro ?_ ?_
                  · (intro W hW; (try simp only [Act.put, List.setIfInBounds_toArray, List.set_cons_zero, List.set_cons_succ]); first | (go_wp2_with fail; exact ⟨rfl, rfl, Below.refl _ _⟩))
                  apply Exists.intro
                  refine And.intro ?_ ?_
                  · (intro W hW; (try simp only [Act.put, List.setIfInBounds_toArray, List.set_cons_zero, List.set_cons_succ]); first | (go_wp2_with fail; exact ⟨rfl, rfl, Below.refl _ _⟩))
                  apply Exists.intro
                  refine And.intro ?_ ?_
                  · (intro W hW; (try simp only [Act.put, List.setIfInBounds_toArray, List.set_cons_zero, List.set_cons_succ]); first | (exact wpList_skip rfl ⟨rfl, rfl, Below.refl _ _⟩) | (go_wp2_with fail; exact ⟨rfl, rfl, Below.refl _ _⟩))
                  apply Exists.intro
                  refine And.intro ?_ ?_
                  · (intro W hW; (try simp only [Act.put, List.setIfInBounds_toArray, List.set_cons_zero, List.set_cons_succ]); first | (exact wpList_skip rfl ⟨rfl, rfl, Below.refl _ _⟩) | (go_wp2_with fail; exact ⟨rfl, rfl, Below.refl _ _⟩))
                  apply Exists.intro
                  refine And.intro ?_ ?_
                  · (intro W hW; (try simp only [Act.put, List.setIfInBounds_toArray, List.set_cons_zero, List.set_cons_succ]); first | (exact wpList_skip rfl ⟨rfl, rfl, Below.refl _ _⟩) | (go_wp2_with fail; exact ⟨rfl, rfl, Below.refl _ _⟩))
                  apply Exists.intro
                  refine And.intro ?_ ?_
                  · (intro W hW; (try simp only [Act.put, List.setIfInBounds_toArray, List.set_cons_zero, List.set_cons_succ]); first | (exact wpList_skip rfl ⟨rfl, rfl, Below.refl _ _⟩) | (obtain ⟨hcW, hfW⟩ := bcell hW; have hsW := hW.size; (try simp at hsW); (try have hsW0 := lt_of_succ_le hsW); (try (have hsW1 := lt_pred hsW; (try (have hsW2 := lt_pred hsW1)))); go_wp2_with fail; exact ⟨rfl, rfl, Below.refl _ _⟩))
                  apply Exists.intro
                  refine And.intro ?_ ?_
                  · (intro W hW; (try simp only [Act.put, List.setIfInBounds_toArray, List.set_cons_zero, List.set_cons_succ]); first | (exact wpList_skip rfl ⟨rfl, rfl, Below.refl _ _⟩) | (go_wp2_with fail; exact ⟨rfl, rfl, Below.refl _ _⟩))
                  apply Exists.intro
                  refine And.intro ?_ ?_
                  · (intro W hW; (try simp only [Act.put, List.setIfInBounds_toArray, List.set_cons_zero, List.set_cons_succ]); first | (exact wpList_skip rfl ⟨rfl, rfl, Below.refl _ _⟩) | (go_wp2_with fail; exact ⟨rfl, rfl, Below.refl _ _⟩))
                  apply Exists.intro
                  refine And.intro ?_ ?_
                  · (intro W hW; (try simp only [Act.put, List.setIfInBounds_toArray, List.set_cons_zero, List.set_cons_succ]); first | (exact wpList_skip rfl ⟨rfl, rfl, Below.refl _ _⟩) | (go_wp2_with fail; exact ⟨rfl, rfl, Below.refl _ _⟩))
                  apply Exists.intro
                  refine And.intro ?_ ?_
                  · (intro W hW; (try simp only [Act.put, List.setIfInBounds_toArray, List.set_cons_zero, List.set_cons_succ]); first | (exact wpList_skip rfl ⟨rfl, rfl, Below.refl _ _⟩) | (obtain ⟨hcW, hfW⟩ := bcell hW; have hsW := hW.size; (try simp at hsW); (try have hsW0 := lt_of_succ_le hsW); (try (have hsW1 := lt_pred hsW; (try (have hsW2 := lt_pred hsW1)))); go_wp2_with fail; exact ⟨rfl, rfl, Below.refl _ _⟩))
                  apply Exists.intro
                  refine And.intro ?_ ?_
                  · (intro W hW; (try simp only [Act.put, List.setIfInBounds_toArray, List.set_cons_zero, List.set_cons_succ]); first | (exact wpList_skip rfl ⟨rfl, rfl, Below.refl _ _⟩) | (go_wp2_with fail; exact ⟨rfl, rfl, Below.refl _ _⟩))
                  apply Exists.intro
                  refine And.intro ?_ ?_
                  · (intro W hW; (try simp only [Act.put, List.setIfInBounds_toArray, List.set_cons_zero, List.set_cons_succ]); first | (go_wp2_with fail; exact ⟨rfl, rfl, Below.refl _ _⟩))
                  intro w1 hb
                  (first | (have hcu2 := Cum.join hcu hb; (try clear hcu); (try clear hc); (try clear hfz); (try clear hsz); (try clear hs0); (try clear hs1); (try clear hs2); (try clear hs3); (try clear hs4); ) | have hcu2 := Cum.mk hb); have hcu := hcu2; clear hcu2; obtain ⟨hc, hfz⟩ := bcell hcu.h; have hsz := hcu.h.size; (try simp at hsz); (try have hs0 := lt_of_succ_le hsz); (try (have hs1 := lt_pred hsz; (try (have hs2 := lt_pred hs1; (try (have hs3 := lt_pred hs2; (try have hs4 := lt_pred hs3)))))))
                  (try simp only [Act.put, List.setIfInBounds_toArray, List.set_cons_zero, List.set_cons_succ])
                  (try simp only [List.drop_succ_cons, List.drop_nil])
                  have Bq := Bn.trans (hb.mono Bn.size)
                  first
                    | (have hne : eqTol y x = false := q9
                       (try clear hcu); (try clear hc); (try clear hfz); (try clear hs0); (try clear hs1); (try clear hs2); (try clear hs3); (try clear hs4); (try clear hsz); (try clear hb)
                       clear q1 q2 q3 q4 q9
                       revert hne Bq
                       revert w1
                       exact hP.out)
                    | (have heq : eqTol y x = true := q9
                       have hi9 := Lib.hid (show ordB lessTol eqTol (l.take (k + 1)) = O by rw [ordB_step Hx.out, ← HOO.out]; unfold insB; rw [hpl.out, Hy.out]; simp only [heq, if_true])
                       have Hq := Lib.hid (HO.out.below Bq)
                       have Bq2 := hbr.trans (Bq.mono hbr.size)
                       go_wp2_with fail
                       go_roundw
                       case rel => exact ⟨k + 1, g, c5, by omega, by go_num, by rw [hi9.out], by rw [hi9.out]; exact Hq.out, Bq2⟩
                       case measure => simp [intOf]; omega)
              · intro w2 Bq hne
                clear ey0 ey1 ey2 ey3 ex0 ex1 ex2 ex3 egl ebl Bn
                have hins := Lib.hid (show ordB lessTol eqTol (l.take (k + 1)) = O.take m ++ [x] ++ O.drop m by rw [ordB_step Hx.out, ← HOO.out]; unfold insB; rw [hpl.out, Hy.out]; simp only [hne, Bool.false_eq_true, if_false])
                clear hcap hcap2 hgb hg hgl
                obtain ⟨-, -, hcap, hcap2, cur, hg, -, -⟩ := HO.out.at encTol_len
                have hgl := row_lt hg
                have hmO9 : m ≤ O.length := by omega
                clear hg
                have B2 : Below w.heap.size w w2 := Bwr.trans (Bq.mono Bwr.size)
                obtain ⟨b', o', hbo, -, -, hcell⟩ := HA.out (by omega)
                simp only [Option.some.injEq, Addr.mk.injEq, and_true] at hbo
                obtain ⟨rfl, rfl⟩ := hbo
                obtain ⟨es', -, hcs, hC9⟩ := hcell k x Hx.out
                obtain rfl := encTol_C x es' hC9
                have fx0 := (B2.cell (p := ⟨b, o + k * 4 + 0, none⟩) (by simpa using hb2)).trans (hcs 0 (by omega))
                have fx1 := (B2.cell (p := ⟨b, o + k * 4 + 1, none⟩) (by simpa using hb2)).trans (hcs 1 (by omega))
                have fx2 := (B2.cell (p := ⟨b, o + k * 4 + 2, none⟩) (by simpa using hb2)).trans (hcs 2 (by omega))
                have fx3 := (B2.cell (p := ⟨b, o + k * 4 + 3, none⟩) (by simpa using hb2)).trans (hcs 3 (by omega))
                simp [encTol] at fx0 fx1 fx2 fx3
                have fbl := Nat.lt_of_lt_of_le hb2 B2.size
                have HO2 := HO.out.below Bq
                have HS := Lib.hid (RowE.sl encTol_len HO2 HCO.out)
                have HSt := Lib.hid (SlOf.take HS.out (k := m) (by omega))
                have HSd := Lib.hid (SlOf.drop HS.out (k := m) (by omega))
                clear hcs hcell HO2
                have hm9 : m ≤ O.length := by omega
                have htl : (O.take m).length = m := by rw [List.length_take]; omega
                have Htl := Lib.hid htl
                have hm0 : (0 : Int) ≤ m := by omega
                have hmc : (m : Int) ≤ c5 := by omega
                clear htl
                go_wp2_with fail
                go_region_law (first | (refine step_append_rows rfl (.tmp 55) (.tmp 58) 42 rfl w2.heap.size 106 i0 (.agg #[.string ⟨#[]⟩, .bool false, .string ⟨#[]⟩, .int .i64 0]) 4 48 Tryz.underlying42 hi hz0 hz1 hz2 rfl (by decide) encTol_len encTol_one encTol_C (.slice (some ⟨_, 0, none⟩) 0 0) 0 [] rfl rfl (by first | exact own_eq (own_empty (w := w2) rfl (Nat.le_refl _)) rfl | exact own_eq ((own_empty (w := w2) rfl (Nat.le_refl _)).alloc (.cells #[.string x.key, .bool x.equal, .string x.value, .int .i64 x.effect] 106)) rfl | exact own_eq (own_empty (w := w2.alloc (.cells #[.string x.key, .bool x.equal, .string x.value, .int .i64 x.effect] 106)) (by simp) (by simp)) rfl) (O.take m) (some ⟨g, 0, none⟩) m c5 _ _ rfl Htl.out (Sl_Tolerance.now HSt.out bel) (by unfold maxLen; omega) (by omega) (by simp <;> omega) ?_; intro v3 w3 ho3 hg3 ha3; rw [List.nil_append] at ho3; obtain ⟨E5, e5, he3⟩ := RowE.form ho3; rw [Htl.out] at he3; subst he3; have hb3 : Below w2.heap.size w2 w3 := Below.grown (bel : Below w2.heap.size w2 _) hg3 (by simp <;> omega) (fun q hq => (by simp [Value.ownBlock] at hq; omega)); have gx0 := (hb3.cell (p := ⟨b, o + k * 4, none⟩) (by simpa using fbl)).trans fx0; have gx1 := (hb3.cell (p := ⟨b, o + k * 4 + 1, none⟩) (by simpa using fbl)).trans fx1; have gx2 := (hb3.cell (p := ⟨b, o + k * 4 + 2, none⟩) (by simpa using fbl)).trans fx2; have gx3 := (hb3.cell (p := ⟨b, o + k * 4 + 3, none⟩) (by simpa using fbl)).trans fx3; have gbl : b < w3.heap.size := Nat.lt_of_lt_of_le fbl hb3.size; have ho4 : w3.ownsRow w2.heap.size 106 4 (.slice E5 m e5) m (flatE encTol (O.take m)) := (by have h9 := ho3; unfold RowE at h9; rw [Htl.out] at h9; exact h9)) | (refine step_append_lies _ rfl (.tmp 59) (.tmp 64) 42 rfl w2.heap.size 106 i0 (.agg #[.string ⟨#[]⟩, .bool false, .string ⟨#[]⟩, .int .i64 0]) 4 48 Tryz.underlying42 hi hz0 hz1 hz2 rfl (by decide) (.slice E5 m e5) m (flatE encTol (O.take m)) rfl (by first | exact ho4 | exact ho4.alloc _) _ 1 1 [.string x.key, .bool x.equal, .string x.value, .int .i64 x.effect] rfl rfl (by first | exact World.news_of_block (heap_alloc_new _ _) | exact World.news_of_block ((hg3.block _ (by simp <;> omega) (by simp [Value.ownBlock] <;> omega)).trans (heap_at (by simp))) | exact World.news_of_block ((hg3.block _ (by simp <;> omega) (by simp [Value.ownBlock] <;> omega)).trans ((Below.heap_alloc _ _ _ (by simp)).trans (heap_at (by simp))))) (encTol_one x) (by decide) (by unfold maxLen; omega) (by omega) (by have := hb3.size; simp; omega) _ rfl ?_; intro g5 cap5 w4 ho5 hg5 ha5 hl7))
                all_goals
                  have hq5 : ∀ q, (Value.slice E5 m e5).ownBlock = some q → w2.heap.size ≤ q := fun q hq => (World.ownsRow.lt ho4 q hq).1
                  have hb4 : Below w2.heap.size w2 w4 := Below.grown (bel : Below w2.heap.size w2 _) hg5 (by have := hb3.size; first | omega | (simp; omega)) hq5
                  have ho6 : RowE encTol 4 106 w2.heap.size w4 (O.take m ++ [x]) (.slice (some ⟨g5, 0, none⟩) (m + 1) cap5) := by
                    unfold RowE
                    rw [flatE_app, List.length_append, Htl.out]
                    exact ho5
                  have HSd4 := Sl_Tolerance.now HSd.out hb4
                  rw [Nat.zero_add] at HSd4
                  obtain ⟨v6, w6, hr6, hR6, hg6, ha6⟩ := run_append_rows (P := Tryz.prog) (enc := encTol) (C := C_Tolerance) w4 42 42 w2.heap.size 106 i0 (.agg #[.string ⟨#[]⟩, .bool false, .string ⟨#[]⟩, .int .i64 0]) 4 48 Tryz.underlying42 hi hz0 hz1 hz2 rfl (by decide) encTol_len encTol_one encTol_C (.slice (some ⟨g5, 0, none⟩) (m + 1) cap5) (m + 1) (O.take m ++ [x]) (by rw [List.length_append, Htl.out]; rfl) ho6 (O.drop m) (some ⟨g, m * 4, none⟩) (O.length - m) (c5 - m) _ _ (by rw [List.length_drop]) HSd4 (by unfold maxLen; omega) (by omega) hb4.size
                  obtain ⟨g6, c6, -, he6, -, -, -, -, -, -⟩ := hR6.row encTol_len (by simp <;> omega)
                  rw [← hins.out] at hR6 he6
                  subst he6
                  have hb6 := Below.grown hb4 hg6 hb4.size (fun q hq => (World.ownsRow.lt ho6 q hq).1)
                  have HR6 := Lib.hid (hR6.less (Nat.le_trans hbr.size Bq.size))
                  have Bq6 := hbr.trans ((Bq.trans (hb6.mono Bq.size)).mono hbr.size)
                  have hmO1 : (m : Int) ≤ O.length := by omega
                  have hmc1 : (m : Int) ≤ c5 := by omega
                  have hOc1 : (O.length : Int) ≤ c5 := by omega
                  clear hR6 hg6 ha6 ho5 ho6 hg5 ha5 hb6 HSd4
                  go_wp2_with (at_builtin; refine wpList_append_of rfl (.tmp 66) (.tmp 69) 42 rfl _ _ _ w6 rfl rfl hr6 ?_)
                  go_roundw
                  case rel => exact ⟨k + 1, g6, c6, by omega, by go_num, rfl, HR6.out, Bq6⟩
                  case measure => simp [intOf]; omega
            · have hlt3' := hlt3
              go_wp2_with fail
              refine wp_region_det 15 (by kernel_rfl) (by kernel_rfl) (by decide) ?_
              apply Exists.intro
              refine And.intro ?_ ?_
              · (intro W hW; (try simp only [Act.put, List.setIfInBounds_toArray, List.set_cons_zero, List.set_cons_succ]); first | (go_wp2_with fail; exact ⟨rfl, rfl, Below.refl _ _⟩))
              apply Exists.intro
              refine And.intro ?_ ?_
              · (intro W hW; (try simp only [Act.put, List.setIfInBounds_toArray, List.set_cons_zero, List.set_cons_succ]); first | (go_wp2_with fail; exact ⟨rfl, rfl, Below.refl _ _⟩))
              apply Exists.intro
              refine And.intro ?_ ?_
              · (intro W hW; (try simp only [Act.put, List.setIfInBounds_toArray, List.set_cons_zero, List.set_cons_succ]); first | (go_wp2_with fail; exact ⟨rfl, rfl, Below.refl _ _⟩))
              apply Exists.intro
              refine And.intro ?_ ?_
              · (intro W hW; (try simp only [Act.put, List.setIfInBounds_toArray, List.set_cons_zero, List.set_cons_succ]); first | (go_wp2_with fail; exact ⟨rfl, rfl, Below.refl _ _⟩))
              apply Exists.intro
              refine And.intro ?_ ?_
              · (intro W hW; (try simp only [Act.put, List.setIfInBounds_toArray, List.set_cons_zero, List.set_cons_succ]); first | (go_wp2_with fail; exact ⟨rfl, rfl, Below.refl _ _⟩))
              apply Exists.intro
              refine And.intro ?_ ?_
              · (intro W hW; (try simp only [Act.put, List.setIfInBounds_toArray, List.set_cons_zero, List.set_cons_succ]); first | (exact wpList_skip rfl ⟨rfl, rfl, Below.refl _ _⟩) | (go_wp2_with fail; exact ⟨rfl, rfl, Below.refl _ _⟩))
              apply Exists.intro
              refine And.intro ?_ ?_
              · (intro W hW; (try simp only [Act.put, List.setIfInBounds_toArray, List.set_cons_zero, List.set_cons_succ]); first | (exact wpList_skip rfl ⟨rfl, rfl, Below.refl _ _⟩) | (go_wp2_with fail; exact ⟨rfl, rfl, Below.refl _ _⟩))
              apply Exists.intro
              refine And.intro ?_ ?_
              · (intro W hW; (try simp only [Act.put, List.setIfInBounds_toArray, List.set_cons_zero, List.set_cons_succ]); first | (exact wpList_skip rfl ⟨rfl, rfl, Below.refl _ _⟩) | (go_wp2_with fail; exact ⟨rfl, rfl, Below.refl _ _⟩))
              apply Exists.intro
              refine And.intro ?_ ?_
              · (intro W hW; (try simp only [Act.put, List.setIfInBounds_toArray, List.set_cons_zero, List.set_cons_succ]); first | (exact wpList_skip rfl ⟨rfl, rfl, Below.refl _ _⟩) | (obtain ⟨hcW, hfW⟩ := bcell hW; have hsW := hW.size; (try simp at hsW); (try have hsW0 := lt_of_succ_le hsW); (try (have hsW1 := lt_pred hsW; (try (have hsW2 := lt_pred hsW1)))); go_wp2_with fail; exact ⟨rfl, rfl, Below.refl _ _⟩))
              apply Exists.intro
              refine And.intro ?_ ?_
              · (intro W hW; (try simp only [Act.put, List.setIfInBounds_toArray, List.set_cons_zero, List.set_cons_succ]); first | (exact wpList_skip rfl ⟨rfl, rfl, Below.refl _ _⟩) | (go_wp2_with fail; exact ⟨rfl, rfl, Below.refl _ _⟩))
              apply Exists.intro
              refine And.intro ?_ ?_
              · (intro W hW; (try simp only [Act.put, List.setIfInBounds_toArray, List.set_cons_zero, List.set_cons_succ]); first | (exact wpList_skip rfl ⟨rfl, rfl, Below.refl _ _⟩) | (go_wp2_with fail; exact ⟨rfl, rfl, Below.refl _ _⟩))
              apply Exists.intro
              refine And.intro ?_ ?_
              · (intro W hW; (try simp only [Act.put, List.setIfInBounds_toArray, List.set_cons_zero, List.set_cons_succ]); first | (exact wpList_skip rfl ⟨rfl, rfl, Below.refl _ _⟩) | (go_wp2_with fail; exact ⟨rfl, rfl, Below.refl _ _⟩))
              apply Exists.intro
              refine And.intro ?_ ?_
              · (intro W hW; (try simp only [Act.put, List.setIfInBounds_toArray, List.set_cons_zero, List.set_cons_succ]); first | (exact wpList_skip rfl ⟨rfl, rfl, Below.refl _ _⟩) | (obtain ⟨hcW, hfW⟩ := bcell hW; have hsW := hW.size; (try simp at hsW); (try have hsW0 := lt_of_succ_le hsW); (try (have hsW1 := lt_pred hsW; (try (have hsW2 := lt_pred hsW1)))); go_wp2_with fail; exact ⟨rfl, rfl, Below.refl _ _⟩))
              apply Exists.intro
              refine And.intro ?_ ?_
              · (intro W hW; (try simp only [Act.put, List.setIfInBounds_toArray, List.set_cons_zero, List.set_cons_succ]); first | (exact wpList_skip rfl ⟨rfl, rfl, Below.refl _ _⟩) | (obtain ⟨hcW, hfW⟩ := bcell hW; have hsW := hW.size; (try simp at hsW); (try have hsW0 := lt_of_succ_le hsW); (try (have hsW1 := lt_pred hsW; (try (have hsW2 := lt_pred hsW1)))); go_wp2_with (first | (go_at_call 117; refine (c_spec_l16Before y x _ _ _ hCy hC).mono ?_; rintro e w9 ⟨rfl, hb9⟩)); exact ⟨rfl, rfl, bel⟩))
              apply Exists.intro
              refine And.intro ?_ ?_
              · (intro W hW; (try simp only [Act.put, List.setIfInBounds_toArray, List.set_cons_zero, List.set_cons_succ]); first | (go_wp2_with fail; exact ⟨rfl, rfl, Below.refl _ _⟩))
              intro w1 hb
              (first | (have hcu2 := Cum.join hcu hb; (try clear hcu); (try clear hc); (try clear hfz); (try clear hsz); (try clear hs0); (try clear hs1); (try clear hs2); (try clear hs3); (try clear hs4); ) | have hcu2 := Cum.mk hb); have hcu := hcu2; clear hcu2; obtain ⟨hc, hfz⟩ := bcell hcu.h; have hsz := hcu.h.size; (try simp at hsz); (try have hs0 := lt_of_succ_le hsz); (try (have hs1 := lt_pred hsz; (try (have hs2 := lt_pred hs1; (try (have hs3 := lt_pred hs2; (try have hs4 := lt_pred hs3)))))))
              (try simp only [Act.put, List.setIfInBounds_toArray, List.set_cons_zero, List.set_cons_succ])
              (try simp only [List.drop_succ_cons, List.drop_nil])
              have hmp : m + 1 ≤ placeB lessTol O x := by
                rcases Nat.lt_or_ge m (placeB lessTol O x) with h | h
                · exact h
                · have e : m = placeB lessTol O x := by omega
                  have h3 := placeB_at lessTol x O y (by rw [← e]; exact Hy.out)
                  rw [hlt3'] at h3
                  cases h3
              have Bn := hbm.trans (hb.mono hbm.size)
              go_wp2_with fail
              go_roundw
              case rel => exact ⟨m + 1, hmp, by go_num, Bn⟩
              case measure => simp [intOf]; omega
          · have hpl := Lib.hid (show placeB lessTol O x = m by omega)
            have HmO := Lib.hid (show m = O.length by omega)
            have hins := Lib.hid (show ordB lessTol eqTol (l.take (k + 1)) = O.take m ++ [x] ++ O.drop m by rw [ordB_step Hx.out, ← HOO.out]; unfold insB; rw [hpl.out, List.getElem?_eq_none (by rw [HmO.out]; exact Nat.le_refl _), HmO.out]; simp)
            have hmO8 : m ≤ O.length := by omega
            have hnn : ¬ (m : Int) < O.length := by omega
            have hn2 : decide (m < O.length) = false := decide_eq_false hlt2
            clear hm hmO hlt2
            go_wp2_with fail
            refine wp_region_det 15 (by kernel_rfl) (by kernel_rfl) (by decide) ?_
            apply Exists.intro
            refine And.intro ?_ ?_
            · (intro W hW; (try simp only [Act.put, List.setIfInBounds_toArray, List.set_cons_zero, List.set_cons_succ]); first | (go_wp2_with fail; exact ⟨rfl, rfl, Below.refl _ _⟩))
            apply Exists.intro
            refine And.intro ?_ ?_
            · (intro W hW; (try simp only [Act.put, List.setIfInBounds_toArray, List.set_cons_zero, List.set_cons_succ]); first | (go_wp2_with fail; exact ⟨rfl, rfl, Below.refl _ _⟩))
            apply Exists.intro
            refine And.intro ?_ ?_
            · (intro W hW; (try simp only [Act.put, List.setIfInBounds_toArray, List.set_cons_zero, List.set_cons_succ]); first | (go_wp2_with fail; exact ⟨rfl, rfl, Below.refl _ _⟩))
            apply Exists.intro
            refine And.intro ?_ ?_
            · (intro W hW; (try simp only [Act.put, List.setIfInBounds_toArray, List.set_cons_zero, List.set_cons_succ]); first | (go_wp2_with fail; exact ⟨rfl, rfl, Below.refl _ _⟩))
            apply Exists.intro
            refine And.intro ?_ ?_
            · (intro W hW; (try simp only [Act.put, List.setIfInBounds_toArray, List.set_cons_zero, List.set_cons_succ]); first | (go_wp2_with fail; exact ⟨rfl, rfl, Below.refl _ _⟩))
            apply Exists.intro
            refine And.intro ?_ ?_
            · (intro W hW; (try simp only [Act.put, List.setIfInBounds_toArray, List.set_cons_zero, List.set_cons_succ]); first | (exact wpList_skip rfl ⟨rfl, rfl, Below.refl _ _⟩) | (go_wp2_with fail; exact ⟨rfl, rfl, Below.refl _ _⟩))
            apply Exists.intro
            refine And.intro ?_ ?_
            · (intro W hW; (try simp only [Act.put, List.setIfInBounds_toArray, List.set_cons_zero, List.set_cons_succ]); first | (exact wpList_skip rfl ⟨rfl, rfl, Below.refl _ _⟩) | (go_wp2_with fail; exact ⟨rfl, rfl, Below.refl _ _⟩))
            apply Exists.intro
            refine And.intro ?_ ?_
            · (intro W hW; (try simp only [Act.put, List.setIfInBounds_toArray, List.set_cons_zero, List.set_cons_succ]); first | (exact wpList_skip rfl ⟨rfl, rfl, Below.refl _ _⟩) | (go_wp2_with fail; exact ⟨rfl, rfl, Below.refl _ _⟩))
            apply Exists.intro
            refine And.intro ?_ ?_
            · (intro W hW; (try simp only [Act.put, List.setIfInBounds_toArray, List.set_cons_zero, List.set_cons_succ]); first | (exact wpList_skip rfl ⟨rfl, rfl, Below.refl _ _⟩) | (obtain ⟨hcW, hfW⟩ := bcell hW; have hsW := hW.size; (try simp at hsW); (try have hsW0 := lt_of_succ_le hsW); (try (have hsW1 := lt_pred hsW; (try (have hsW2 := lt_pred hsW1)))); go_wp2_with fail; exact ⟨rfl, rfl, Below.refl _ _⟩))
            apply Exists.intro
            refine And.intro ?_ ?_
            · (intro W hW; (try simp only [Act.put, List.setIfInBounds_toArray, List.set_cons_zero, List.set_cons_succ]); first | (exact wpList_skip rfl ⟨rfl, rfl, Below.refl _ _⟩) | (go_wp2_with fail; exact ⟨rfl, rfl, Below.refl _ _⟩))
            apply Exists.intro
            refine And.intro ?_ ?_
            · (intro W hW; (try simp only [Act.put, List.setIfInBounds_toArray, List.set_cons_zero, List.set_cons_succ]); first | (exact wpList_skip rfl ⟨rfl, rfl, Below.refl _ _⟩) | (go_wp2_with fail; exact ⟨rfl, rfl, Below.refl _ _⟩))
            apply Exists.intro
            refine And.intro ?_ ?_
            · (intro W hW; (try simp only [Act.put, List.setIfInBounds_toArray, List.set_cons_zero, List.set_cons_succ]); first | (exact wpList_skip rfl ⟨rfl, rfl, Below.refl _ _⟩) | (go_wp2_with fail; exact ⟨rfl, rfl, Below.refl _ _⟩))
            apply Exists.intro
            refine And.intro ?_ ?_
            · (intro W hW; (try simp only [Act.put, List.setIfInBounds_toArray, List.set_cons_zero, List.set_cons_succ]); first | (exact wpList_skip rfl ⟨rfl, rfl, Below.refl _ _⟩) | (obtain ⟨hcW, hfW⟩ := bcell hW; have hsW := hW.size; (try simp at hsW); (try have hsW0 := lt_of_succ_le hsW); (try (have hsW1 := lt_pred hsW; (try (have hsW2 := lt_pred hsW1)))); go_wp2_with fail; exact ⟨rfl, rfl, Below.refl _ _⟩))
            apply Exists.intro
            refine And.intro ?_ ?_
            · (intro W hW; (try simp only [Act.put, List.setIfInBounds_toArray, List.set_cons_zero, List.set_cons_succ]); first | (exact wpList_skip rfl ⟨rfl, rfl, Below.refl _ _⟩) | (obtain ⟨hcW, hfW⟩ := bcell hW; have hsW := hW.size; (try simp at hsW); (try have hsW0 := lt_of_succ_le hsW); (try (have hsW1 := lt_pred hsW; (try (have hsW2 := lt_pred hsW1)))); go_wp2_with fail; exact ⟨rfl, rfl, bel⟩))
            apply Exists.intro
            refine And.intro ?_ ?_
            · (intro W hW; (try simp only [Act.put, List.setIfInBounds_toArray, List.set_cons_zero, List.set_cons_succ]); first | (go_wp2_with fail; exact ⟨rfl, rfl, Below.refl _ _⟩))
            intro w1 hb
            (first | (have hcu2 := Cum.join hcu hb; (try clear hcu); (try clear hc); (try clear hfz); (try clear hsz); (try clear hs0); (try clear hs1); (try clear hs2); (try clear hs3); (try clear hs4); ) | have hcu2 := Cum.mk hb); have hcu := hcu2; clear hcu2; obtain ⟨hc, hfz⟩ := bcell hcu.h; have hsz := hcu.h.size; (try simp at hsz); (try have hs0 := lt_of_succ_le hsz); (try (have hs1 := lt_pred hsz; (try (have hs2 := lt_pred hs1; (try (have hs3 := lt_pred hs2; (try have hs4 := lt_pred hs3)))))))
            (try simp only [Act.put, List.setIfInBounds_toArray, List.set_cons_zero, List.set_cons_succ])
            (try simp only [List.drop_succ_cons, List.drop_nil])
            have Bn := hbm.trans (hb.mono hbm.size)
            clear hx0 hx1 hx2 hx3 hc0 hc1 hc2 hc3 hbl2 hcu hc hfz hb
            go_wp2_with fail
            refine comb (P := ?P2) (fun hP => ?_) ?_; rotate_left 1
            · skip
              refine wp_region_det 15 (by kernel_rfl) (by kernel_rfl) (by decide) ?_
              apply Exists.intro
              refine And.intro ?_ ?_
              · (intro W hW; (try simp only [Act.put, List.setIfInBounds_toArray, List.set_cons_zero, List.set_cons_succ]); first | (go_wp2_with fail; exact ⟨rfl, rfl, Below.refl _ _⟩))
              apply Exists.intro
              refine And.intro ?_ ?_
              · (intro W hW; (try simp only [Act.put, List.setIfInBounds_toArray, List.set_cons_zero, List.set_cons_succ]); first | (go_wp2_with fail; exact ⟨rfl, rfl, Below.refl _ _⟩))
              apply Exists.intro
              refine And.intro ?_ ?_
              · (intro W hW; (try simp only [Act.put, List.setIfInBounds_toArray, List.set_cons_zero, List.set_cons_succ]); first | (go_wp2_with fail; exact ⟨rfl, rfl, Below.refl _ _⟩))
              apply Exists.intro
              refine And.intro ?_ ?_
              · (intro W hW; (try simp only [Act.put, List.setIfInBounds_toArray, List.set_cons_zero, List.set_cons_succ]); first | (go_wp2_with fail; exact ⟨rfl, rfl, Below.refl _ _⟩))
              apply Exists.intro
              refine And.intro ?_ ?_
              · (intro W hW; (try simp only [Act.put, List.setIfInBounds_toArray, List.set_cons_zero, List.set_cons_succ]); first | (go_wp2_with fail; exact ⟨rfl, rfl, Below.refl _ _⟩))
              apply Exists.intro
              refine And.intro ?_ ?_
              · (intro W hW; (try simp only [Act.put, List.setIfInBounds_toArray, List.set_cons_zero, List.set_cons_succ]); first | (exact wpList_skip rfl ⟨rfl, rfl, Below.refl _ _⟩) | (go_wp2_with fail; exact ⟨rfl, rfl, Below.refl _ _⟩))
              apply Exists.intro
              refine And.intro ?_ ?_
              · (intro W hW; (try simp only [Act.put, List.setIfInBounds_toArray, List.set_cons_zero, List.set_cons_succ]); first | (exact wpList_skip rfl ⟨rfl, rfl, Below.refl _ _⟩) | (go_wp2_with fail; exact ⟨rfl, rfl, Below.refl _ _⟩))
              apply Exists.intro
              refine And.intro ?_ ?_
              · (intro W hW; (try simp only [Act.put, List.setIfInBounds_toArray, List.set_cons_zero, List.set_cons_succ]); first | (exact wpList_skip rfl ⟨rfl, rfl, Below.refl _ _⟩) | (go_wp2_with fail; exact ⟨rfl, rfl, Below.refl _ _⟩))
              apply Exists.intro
              refine And.intro ?_ ?_
              · (intro W hW; (try simp only [Act.put, List.setIfInBounds_toArray, List.set_cons_zero, List.set_cons_succ]); first | (exact wpList_skip rfl ⟨rfl, rfl, Below.refl _ _⟩) | (obtain ⟨hcW, hfW⟩ := bcell hW; have hsW := hW.size; (try simp at hsW); (try have hsW0 := lt_of_succ_le hsW); (try (have hsW1 := lt_pred hsW; (try (have hsW2 := lt_pred hsW1)))); go_wp2_with fail; exact ⟨rfl, rfl, Below.refl _ _⟩))
              apply Exists.intro
              refine And.intro ?_ ?_
              · (intro W hW; (try simp only [Act.put, List.setIfInBounds_toArray, List.set_cons_zero, List.set_cons_succ]); first | (exact wpList_skip rfl ⟨rfl, rfl, Below.refl _ _⟩) | (go_wp2_with fail; exact ⟨rfl, rfl, Below.refl _ _⟩))
              apply Exists.intro
              refine And.intro ?_ ?_
              · (intro W hW; (try simp only [Act.put, List.setIfInBounds_toArray, List.set_cons_zero, List.set_cons_succ]); first | (exact wpList_skip rfl ⟨rfl, rfl, Below.refl _ _⟩) | (go_wp2_with fail; exact ⟨rfl, rfl, Below.refl _ _⟩))
              apply Exists.intro
              refine And.intro ?_ ?_
              · (intro W hW; (try simp only [Act.put, List.setIfInBounds_toArray, List.set_cons_zero, List.set_cons_succ]); first | (exact wpList_skip rfl ⟨rfl, rfl, Below.refl _ _⟩) | (go_wp2_with fail; exact ⟨rfl, rfl, Below.refl _ _⟩))
              apply Exists.intro
              refine And.intro ?_ ?_
              · (intro W hW; (try simp only [Act.put, List.setIfInBounds_toArray, List.set_cons_zero, List.set_cons_succ]); first | (exact wpList_skip rfl ⟨rfl, rfl, Below.refl _ _⟩) | (obtain ⟨hcW, hfW⟩ := bcell hW; have hsW := hW.size; (try simp at hsW); (try have hsW0 := lt_of_succ_le hsW); (try (have hsW1 := lt_pred hsW; (try (have hsW2 := lt_pred hsW1)))); go_wp2_with fail; exact ⟨rfl, rfl, Below.refl _ _⟩))
              apply Exists.intro
              refine And.intro ?_ ?_
              · (intro W hW; (try simp only [Act.put, List.setIfInBounds_toArray, List.set_cons_zero, List.set_cons_succ]); first | (exact wpList_skip rfl ⟨rfl, rfl, Below.refl _ _⟩) | (go_wp2_with fail; exact ⟨rfl, rfl, Below.refl _ _⟩))
              apply Exists.intro
              refine And.intro ?_ ?_
              · (intro W hW; (try simp only [Act.put, List.setIfInBounds_toArray, List.set_cons_zero, List.set_cons_succ]); first | (go_wp2_with fail; exact ⟨rfl, rfl, Below.refl _ _⟩))
              intro w1 hb
              (first | (have hcu2 := Cum.join hcu hb; (try clear hcu); (try clear hc); (try clear hfz); (try clear hsz); (try clear hs0); (try clear hs1); (try clear hs2); (try clear hs3); (try clear hs4); ) | have hcu2 := Cum.mk hb); have hcu := hcu2; clear hcu2; obtain ⟨hc, hfz⟩ := bcell hcu.h; have hsz := hcu.h.size; (try simp at hsz); (try have hs0 := lt_of_succ_le hsz); (try (have hs1 := lt_pred hsz; (try (have hs2 := lt_pred hs1; (try (have hs3 := lt_pred hs2; (try have hs4 := lt_pred hs3)))))))
              (try simp only [Act.put, List.setIfInBounds_toArray, List.set_cons_zero, List.set_cons_succ])
              (try simp only [List.drop_succ_cons, List.drop_nil])
              have Bq := Bn.trans (hb.mono Bn.size)
              (try clear hcu); (try clear hc); (try clear hfz); (try clear hs0); (try clear hs1); (try clear hs2); (try clear hs3); (try clear hs4); (try clear hsz); (try clear hb)
              revert Bq
              revert w1
              exact hP.out
            · intro w2 Bq
              clear hnn hn2 Bn
              have hcO : O.length ≤ c5 := (HO.out.at encTol_len).2.2.1
              rcases Nat.lt_or_ge m c5 with hmcl | hmcl
              · have hmcI : (m : Int) < c5 := by omega
                have hmcn : decide (c5 = m) = false := decide_eq_false (by omega)
                have hmcn2 : ¬ c5 = m := by omega
                obtain ⟨-, -, hcap, hcap2, cur, hg, -, -⟩ := HO.out.at encTol_len
                have hgl := row_lt hg
                have hmO9 : m ≤ O.length := by omega
                clear hg
                have B2 : Below w.heap.size w w2 := Bwr.trans (Bq.mono Bwr.size)
                obtain ⟨b', o', hbo, -, -, hcell⟩ := HA.out (by omega)
                simp only [Option.some.injEq, Addr.mk.injEq, and_true] at hbo
                obtain ⟨rfl, rfl⟩ := hbo
                obtain ⟨es', -, hcs, hC9⟩ := hcell k x Hx.out
                obtain rfl := encTol_C x es' hC9
                have fx0 := (B2.cell (p := ⟨b, o + k * 4 + 0, none⟩) (by simpa using hb2)).trans (hcs 0 (by omega))
                have fx1 := (B2.cell (p := ⟨b, o + k * 4 + 1, none⟩) (by simpa using hb2)).trans (hcs 1 (by omega))
                have fx2 := (B2.cell (p := ⟨b, o + k * 4 + 2, none⟩) (by simpa using hb2)).trans (hcs 2 (by omega))
                have fx3 := (B2.cell (p := ⟨b, o + k * 4 + 3, none⟩) (by simpa using hb2)).trans (hcs 3 (by omega))
                simp [encTol] at fx0 fx1 fx2 fx3
                have fbl := Nat.lt_of_lt_of_le hb2 B2.size
                have HO2 := HO.out.below Bq
                have HS := Lib.hid (RowE.sl encTol_len HO2 HCO.out)
                have HSt := Lib.hid (SlOf.take HS.out (k := m) (by omega))
                have HSd := Lib.hid (SlOf.drop HS.out (k := m) (by omega))
                clear hcs hcell HO2
                have hm9 : m ≤ O.length := by omega
                have htl : (O.take m).length = m := by rw [List.length_take]; omega
                have Htl := Lib.hid htl
                have hm0 : (0 : Int) ≤ m := by omega
                have hmc : (m : Int) ≤ c5 := by omega
                clear htl
                go_wp2_with fail
                go_region_law (first | (refine step_append_rows rfl (.tmp 55) (.tmp 58) 42 rfl w2.heap.size 106 i0 (.agg #[.string ⟨#[]⟩, .bool false, .string ⟨#[]⟩, .int .i64 0]) 4 48 Tryz.underlying42 hi hz0 hz1 hz2 rfl (by decide) encTol_len encTol_one encTol_C (.slice (some ⟨_, 0, none⟩) 0 0) 0 [] rfl rfl (by first | exact own_eq (own_empty (w := w2) rfl (Nat.le_refl _)) rfl | exact own_eq ((own_empty (w := w2) rfl (Nat.le_refl _)).alloc (.cells #[.string x.key, .bool x.equal, .string x.value, .int .i64 x.effect] 106)) rfl | exact own_eq (own_empty (w := w2.alloc (.cells #[.string x.key, .bool x.equal, .string x.value, .int .i64 x.effect] 106)) (by simp) (by simp)) rfl) (O.take m) (some ⟨g, 0, none⟩) m c5 _ _ rfl Htl.out (Sl_Tolerance.now HSt.out bel) (by unfold maxLen; omega) (by omega) (by simp <;> omega) ?_; intro v3 w3 ho3 hg3 ha3; rw [List.nil_append] at ho3; obtain ⟨E5, e5, he3⟩ := RowE.form ho3; rw [Htl.out] at he3; subst he3; have hb3 : Below w2.heap.size w2 w3 := Below.grown (bel : Below w2.heap.size w2 _) hg3 (by simp <;> omega) (fun q hq => (by simp [Value.ownBlock] at hq; omega)); have gx0 := (hb3.cell (p := ⟨b, o + k * 4, none⟩) (by simpa using fbl)).trans fx0; have gx1 := (hb3.cell (p := ⟨b, o + k * 4 + 1, none⟩) (by simpa using fbl)).trans fx1; have gx2 := (hb3.cell (p := ⟨b, o + k * 4 + 2, none⟩) (by simpa using fbl)).trans fx2; have gx3 := (hb3.cell (p := ⟨b, o + k * 4 + 3, none⟩) (by simpa using fbl)).trans fx3; have gbl : b < w3.heap.size := Nat.lt_of_lt_of_le fbl hb3.size; have ho4 : w3.ownsRow w2.heap.size 106 4 (.slice E5 m e5) m (flatE encTol (O.take m)) := (by have h9 := ho3; unfold RowE at h9; rw [Htl.out] at h9; exact h9)) | (refine step_append_lies _ rfl (.tmp 59) (.tmp 64) 42 rfl w2.heap.size 106 i0 (.agg #[.string ⟨#[]⟩, .bool false, .string ⟨#[]⟩, .int .i64 0]) 4 48 Tryz.underlying42 hi hz0 hz1 hz2 rfl (by decide) (.slice E5 m e5) m (flatE encTol (O.take m)) rfl (by first | exact ho4 | exact ho4.alloc _) _ 1 1 [.string x.key, .bool x.equal, .string x.value, .int .i64 x.effect] rfl rfl (by first | exact World.news_of_block (heap_alloc_new _ _) | exact World.news_of_block ((hg3.block _ (by simp <;> omega) (by simp [Value.ownBlock] <;> omega)).trans (heap_at (by simp))) | exact World.news_of_block ((hg3.block _ (by simp <;> omega) (by simp [Value.ownBlock] <;> omega)).trans ((Below.heap_alloc _ _ _ (by simp)).trans (heap_at (by simp))))) (encTol_one x) (by decide) (by unfold maxLen; omega) (by omega) (by have := hb3.size; simp; omega) _ rfl ?_; intro g5 cap5 w4 ho5 hg5 ha5 hl7))
                all_goals
                  have hq5 : ∀ q, (Value.slice E5 m e5).ownBlock = some q → w2.heap.size ≤ q := fun q hq => (World.ownsRow.lt ho4 q hq).1
                  have hb4 : Below w2.heap.size w2 w4 := Below.grown (bel : Below w2.heap.size w2 _) hg5 (by have := hb3.size; first | omega | (simp; omega)) hq5
                  have ho6 : RowE encTol 4 106 w2.heap.size w4 (O.take m ++ [x]) (.slice (some ⟨g5, 0, none⟩) (m + 1) cap5) := by
                    unfold RowE
                    rw [flatE_app, List.length_append, Htl.out]
                    exact ho5
                  have HSd4 := Sl_Tolerance.now HSd.out hb4
                  rw [Nat.zero_add] at HSd4
                  obtain ⟨v6, w6, hr6, hR6, hg6, ha6⟩ := run_append_rows (P := Tryz.prog) (enc := encTol) (C := C_Tolerance) w4 42 42 w2.heap.size 106 i0 (.agg #[.string ⟨#[]⟩, .bool false, .string ⟨#[]⟩, .int .i64 0]) 4 48 Tryz.underlying42 hi hz0 hz1 hz2 rfl (by decide) encTol_len encTol_one encTol_C (.slice (some ⟨g5, 0, none⟩) (m + 1) cap5) (m + 1) (O.take m ++ [x]) (by rw [List.length_append, Htl.out]; rfl) ho6 (O.drop m) (some ⟨g, m * 4, none⟩) (O.length - m) (c5 - m) _ _ (by rw [List.length_drop]) HSd4 (by unfold maxLen; omega) (by omega) hb4.size
                  obtain ⟨g6, c6, -, he6, -, -, -, -, -, -⟩ := hR6.row encTol_len (by simp <;> omega)
                  rw [← hins.out] at hR6 he6
                  subst he6
                  have hb6 := Below.grown hb4 hg6 hb4.size (fun q hq => (World.ownsRow.lt ho6 q hq).1)
                  have HR6 := Lib.hid (hR6.less (Nat.le_trans hbr.size Bq.size))
                  have Bq6 := hbr.trans ((Bq.trans (hb6.mono Bq.size)).mono hbr.size)
                  have hmO1 : (m : Int) ≤ O.length := by omega
                  have hmc1 : (m : Int) ≤ c5 := by omega
                  have hOc1 : (O.length : Int) ≤ c5 := by omega
                  clear hR6 hg6 ha6 ho5 ho6 hg5 ha5 hb6 HSd4
                  go_wp2_with (at_builtin; refine wpList_append_of rfl (.tmp 66) (.tmp 69) 42 rfl _ _ _ w6 rfl rfl hr6 ?_)
                  go_roundw
                  case rel => exact ⟨k + 1, g6, c6, by omega, by go_num, rfl, HR6.out, Bq6⟩
                  case measure => simp [intOf]; omega
              · have HcM := Lib.hid (show m = c5 by have := HmO.out; omega)
                have hins := Lib.hid (show ordB lessTol eqTol (l.take (k + 1)) = O.take m ++ [x] ++ [] by rw [hins.out, List.drop_eq_nil_of_le (by rw [HmO.out]; exact Nat.le_refl _)])
                obtain rfl := HcM.out
                obtain ⟨-, -, hcap, hcap2, cur, hg, -, -⟩ := HO.out.at encTol_len
                have hgl := row_lt hg
                have hmO9 : m ≤ O.length := by omega
                clear hg
                have B2 : Below w.heap.size w w2 := Bwr.trans (Bq.mono Bwr.size)
                obtain ⟨b', o', hbo, -, -, hcell⟩ := HA.out (by omega)
                simp only [Option.some.injEq, Addr.mk.injEq, and_true] at hbo
                obtain ⟨rfl, rfl⟩ := hbo
                obtain ⟨es', -, hcs, hC9⟩ := hcell k x Hx.out
                obtain rfl := encTol_C x es' hC9
                have fx0 := (B2.cell (p := ⟨b, o + k * 4 + 0, none⟩) (by simpa using hb2)).trans (hcs 0 (by omega))
                have fx1 := (B2.cell (p := ⟨b, o + k * 4 + 1, none⟩) (by simpa using hb2)).trans (hcs 1 (by omega))
                have fx2 := (B2.cell (p := ⟨b, o + k * 4 + 2, none⟩) (by simpa using hb2)).trans (hcs 2 (by omega))
                have fx3 := (B2.cell (p := ⟨b, o + k * 4 + 3, none⟩) (by simpa using hb2)).trans (hcs 3 (by omega))
                simp [encTol] at fx0 fx1 fx2 fx3
                have fbl := Nat.lt_of_lt_of_le hb2 B2.size
                have HO2 := HO.out.below Bq
                have HS := Lib.hid (RowE.sl encTol_len HO2 HCO.out)
                have HSt := Lib.hid (SlOf.take HS.out (k := m) (by omega))
                have HSd := Lib.hid (show Sl_Tolerance 0 w2.heap.size w2 [] (.slice (some ⟨g, 0, none⟩) 0 0) from ⟨_, 0, rfl, by simp, by omega, fun h => by simp at h⟩)
                clear hcs hcell HO2
                have hm9 : m ≤ O.length := by omega
                have htl : (O.take m).length = m := by rw [List.length_take]; omega
                have Htl := Lib.hid htl
                have hm0 : (0 : Int) ≤ m := by omega
                have hmc : (m : Int) ≤ m := by omega
                clear htl
                go_wp2_with fail
                go_region_law (first | (refine step_append_rows rfl (.tmp 55) (.tmp 58) 42 rfl w2.heap.size 106 i0 (.agg #[.string ⟨#[]⟩, .bool false, .string ⟨#[]⟩, .int .i64 0]) 4 48 Tryz.underlying42 hi hz0 hz1 hz2 rfl (by decide) encTol_len encTol_one encTol_C (.slice (some ⟨_, 0, none⟩) 0 0) 0 [] rfl rfl (by first | exact own_eq (own_empty (w := w2) rfl (Nat.le_refl _)) rfl | exact own_eq ((own_empty (w := w2) rfl (Nat.le_refl _)).alloc (.cells #[.string x.key, .bool x.equal, .string x.value, .int .i64 x.effect] 106)) rfl | exact own_eq (own_empty (w := w2.alloc (.cells #[.string x.key, .bool x.equal, .string x.value, .int .i64 x.effect] 106)) (by simp) (by simp)) rfl) (O.take m) (some ⟨g, 0, none⟩) m m _ _ rfl Htl.out (Sl_Tolerance.now HSt.out bel) (by unfold maxLen; omega) (by omega) (by simp <;> omega) ?_; intro v3 w3 ho3 hg3 ha3; rw [List.nil_append] at ho3; obtain ⟨E5, e5, he3⟩ := RowE.form ho3; rw [Htl.out] at he3; subst he3; have hb3 : Below w2.heap.size w2 w3 := Below.grown (bel : Below w2.heap.size w2 _) hg3 (by simp <;> omega) (fun q hq => (by simp [Value.ownBlock] at hq; omega)); have gx0 := (hb3.cell (p := ⟨b, o + k * 4, none⟩) (by simpa using fbl)).trans fx0; have gx1 := (hb3.cell (p := ⟨b, o + k * 4 + 1, none⟩) (by simpa using fbl)).trans fx1; have gx2 := (hb3.cell (p := ⟨b, o + k * 4 + 2, none⟩) (by simpa using fbl)).trans fx2; have gx3 := (hb3.cell (p := ⟨b, o + k * 4 + 3, none⟩) (by simpa using fbl)).trans fx3; have gbl : b < w3.heap.size := Nat.lt_of_lt_of_le fbl hb3.size; have ho4 : w3.ownsRow w2.heap.size 106 4 (.slice E5 m e5) m (flatE encTol (O.take m)) := (by have h9 := ho3; unfold RowE at h9; rw [Htl.out] at h9; exact h9)) | (refine step_append_lies _ rfl (.tmp 59) (.tmp 64) 42 rfl w2.heap.size 106 i0 (.agg #[.string ⟨#[]⟩, .bool false, .string ⟨#[]⟩, .int .i64 0]) 4 48 Tryz.underlying42 hi hz0 hz1 hz2 rfl (by decide) (.slice E5 m e5) m (flatE encTol (O.take m)) rfl (by first | exact ho4 | exact ho4.alloc _) _ 1 1 [.string x.key, .bool x.equal, .string x.value, .int .i64 x.effect] rfl rfl (by first | exact World.news_of_block (heap_alloc_new _ _) | exact World.news_of_block ((hg3.block _ (by simp <;> omega) (by simp [Value.ownBlock] <;> omega)).trans (heap_at (by simp))) | exact World.news_of_block ((hg3.block _ (by simp <;> omega) (by simp [Value.ownBlock] <;> omega)).trans ((Below.heap_alloc _ _ _ (by simp)).trans (heap_at (by simp))))) (encTol_one x) (by decide) (by unfold maxLen; omega) (by omega) (by have := hb3.size; simp; omega) _ rfl ?_; intro g5 cap5 w4 ho5 hg5 ha5 hl7))
                all_goals
                  have hq5 : ∀ q, (Value.slice E5 m e5).ownBlock = some q → w2.heap.size ≤ q := fun q hq => (World.ownsRow.lt ho4 q hq).1
                  have hb4 : Below w2.heap.size w2 w4 := Below.grown (bel : Below w2.heap.size w2 _) hg5 (by have := hb3.size; first | omega | (simp; omega)) hq5
                  have ho6 : RowE encTol 4 106 w2.heap.size w4 (O.take m ++ [x]) (.slice (some ⟨g5, 0, none⟩) (m + 1) cap5) := by
                    unfold RowE
                    rw [flatE_app, List.length_append, Htl.out]
                    exact ho5
                  have HSd4 := Sl_Tolerance.now HSd.out hb4
                  skip
                  obtain ⟨v6, w6, hr6, hR6, hg6, ha6⟩ := run_append_rows (P := Tryz.prog) (enc := encTol) (C := C_Tolerance) w4 42 42 w2.heap.size 106 i0 (.agg #[.string ⟨#[]⟩, .bool false, .string ⟨#[]⟩, .int .i64 0]) 4 48 Tryz.underlying42 hi hz0 hz1 hz2 rfl (by decide) encTol_len encTol_one encTol_C (.slice (some ⟨g5, 0, none⟩) (m + 1) cap5) (m + 1) (O.take m ++ [x]) (by rw [List.length_append, Htl.out]; rfl) ho6 [] (some ⟨g, 0, none⟩) 0 0 _ _ rfl HSd4 (by unfold maxLen; omega) (by omega) hb4.size
                  obtain ⟨g6, c6, -, he6, -, -, -, -, -, -⟩ := hR6.row encTol_len (by simp <;> omega)
                  rw [← hins.out] at hR6 he6
                  subst he6
                  have hb6 := Below.grown hb4 hg6 hb4.size (fun q hq => (World.ownsRow.lt ho6 q hq).1)
                  have HR6 := Lib.hid (hR6.less (Nat.le_trans hbr.size Bq.size))
                  have Bq6 := hbr.trans ((Bq.trans (hb6.mono Bq.size)).mono hbr.size)
                  have hmO1 : (m : Int) ≤ O.length := by omega
                  have hmc1 : (m : Int) ≤ m := by omega
                  have hOc1 : (O.length : Int) ≤ m := by omega
                  clear hR6 hg6 ha6 ho5 ho6 hg5 ha5 hb6 HSd4
                  go_wp2_with (at_builtin; refine wpList_append_of rfl (.tmp 66) (.tmp 69) 42 rfl _ _ _ w6 rfl rfl hr6 ?_)
                  go_roundw
                  case rel => exact ⟨k + 1, g6, c6, by omega, by go_num, rfl, HR6.out, Bq6⟩
                  case measure => simp [intOf]; omega
      · obtain rfl : k = l.length := by omega
        have hO2 : O = ordB lessTol eqTol l := by have h9 := HOO.out; rw [List.take_length] at h9; exact h9
        have HO2 := Lib.hid hO2
        have hCO : ∀ d ∈ O, C_Tolerance d (encTol d) := fun d hd => HCd.out d ((ordB_all tot_Tol l).2 d |>.1 (by rw [← hO2]; exact hd))
        have HSl := Lib.hid (RowE.sl encTol_len HO.out hCO)
        have h40n : ¬ 40 < l.length := by omega
        have H40 := Lib.hid h40n
        clear hA hO2 hCO h40n
        go_wp2_with fail
        refine (c_spec_TolerancesOk O _ _ _ HSl.out).mono ?_
        rintro e w9 ⟨rfl, hb9⟩
        have Bw9 := Bwr.trans (hb9.mono Bwr.size)
        have HO9 := Lib.hid ((HO.out.below hb9).less Bw.size)
        have HR9 := Lib.hid ((HR.out.below hbr).below hb9)
        rcases ht : tolsOkB O with _ | _
        · have Hf := Lib.hid (show sortTolB l = (l, false) by unfold sortTolB; rw [if_neg H40.out, ← HO2.out, ht]; rfl)
          go_wp2_with fail
          go_ret2
          exact ⟨A', c', by rw [Hf.out]; rfl, by rw [Hf.out]; exact HR9.out, Bw9⟩
        · have Hf := Lib.hid (show sortTolB l = (O, true) by unfold sortTolB; rw [if_neg H40.out, ← HO2.out, ht]; rfl)
          go_wp2_with fail
          go_ret2
          exact ⟨some ⟨g, 0, none⟩, c5, by rw [Hf.out]; rfl, by rw [Hf.out]; exact HO9.out, Bw9⟩
end Go.Proofs.YtmhlnbihppojmaaGreat
