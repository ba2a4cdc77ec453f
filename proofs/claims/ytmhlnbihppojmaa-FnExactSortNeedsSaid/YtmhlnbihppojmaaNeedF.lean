/- slices.ContainsFunc and slices.CompactFunc at requirements, with the closures of SortNeeds. No conditions. Written by wip/tools/genneedf.py. -/
import Derived.Test.YtmhlnbihppojmaaNeedS
import Derived.Test.YtmhlnbihppojmaaDet
namespace Go.Proofs.Ytmhlnbihppojmaa
open Go.RowKit

theorem c_long1 (x : NeedV) (w : World) : Calls Try.prog 74 #[.agg #[.string x.d.key, .int .i64 x.d.op, .slice x.A x.d.values.length x.c]] w fun e w' => e = .returned (.bool (decide ((40 : Int) < x.d.values.length))) ∧ Below w.heap.size w w' := by
  go_enter Try.func74, Try.ntmps74
  go_wp2_with fail
  go_ret
  exact ⟨by simp, (by repeat (first | (with_reducible exact Below.refl _ _) | (with_reducible refine ext_alloc ?_) | ((with_reducible refine ext_setCell ?_ ?_); focus (simp; (try omega))) | (with_reducible refine below_drewN ?_ _) | (with_reducible refine Below.drew ?_) | (with_reducible (apply ext_step; assumption))))⟩
set_option maxHeartbeats 1000000 in
theorem c_IndexFunc_Need (L : List NeedV) (v : Value) (w : World) (lo : Nat) (hs : SlOf C_E 3 lo w.heap.size w L v) :
    Calls Try.prog 119 #[v, .func (.func 74) #[] #[]] w fun e w' => ∃ ix : Int, e = .returned (.int .i64 ix) ∧ decide (ix ≥ 0) = longN (L.map (·.d)) ∧ -1 ≤ ix ∧ ix ≤ 9223372036854775807 ∧ Below w.heap.size w w' := by
  obtain ⟨A, c, rfl, hlc, hc, hA⟩ := hs
  go_enter Try.func119, Try.ntmps119
  go_wp2_with fail
  go_loopw [8] (fun i wr => ∃ k : Nat, k ≤ L.length ∧ i = .int .i64 k ∧ (∀ j x, j < k → L[j]? = some x → x.d.values.length ≤ 40) ∧ Below w.heap.size w wr) (fun i _ => L.length - (intOf i).toNat)
  case atStart => exact ⟨0, Nat.zero_le _, rfl, fun j x hj => by omega, (by repeat (first | (with_reducible exact Below.refl _ _) | (with_reducible refine ext_alloc ?_) | ((with_reducible refine ext_setCell ?_ ?_); focus (simp; (try omega))) | (with_reducible refine below_drewN ?_ _) | (with_reducible refine Below.drew ?_) | (with_reducible (apply ext_step; assumption))))⟩
  case round =>
    obtain ⟨k, hk, rfl, hall, hbr⟩ := hrel
    have Hall := Lib.hid hall
    clear hall
    by_cases hlt : k < L.length
    · obtain ⟨b, o, rfl, -, hb2, hcell⟩ := hA (by omega)
      obtain ⟨x, hx⟩ := exists_at hlt
      obtain ⟨es, -, hcs, hC⟩ := hcell k x hx
      obtain rfl := encN_C x es hC
      have hc0 := (hbr.cell (p := ⟨b, o + k * 3 + 0, none⟩) (by simp; omega)).trans (hcs 0 (by omega))
      have hc1 := (hbr.cell (p := ⟨b, o + k * 3 + 1, none⟩) (by simp; omega)).trans (hcs 1 (by omega))
      have hc2 := (hbr.cell (p := ⟨b, o + k * 3 + 2, none⟩) (by simp; omega)).trans (hcs 2 (by omega))
      simp [encN] at hc0 hc1 hc2
      have hbl : b < wr.heap.size := Nat.lt_of_lt_of_le hb2 hbr.size
      have hk0 : (0 : Int) ≤ k := by omega
      have hk1 : (k : Int) < L.length := by omega
      have Hx := Lib.hid hx
      clear hcs hcell hA hx
      go_wp2_with fail
      refine (c_long1 x _).mono ?_
      rintro e w1 ⟨rfl, hb⟩
      have hb1 := ext_trans hbr hb
      by_cases h40 : (40 : Int) < x.d.values.length
      · have hlg := Lib.hid (show longN (L.map (·.d)) = true from longN_at (k := k) (d := x.d) (by rw [List.getElem?_map, Hx.out]; rfl) (by omega))
        rw [decide_eq_true h40]
        go_wp2_with fail
        go_ret
        exact ⟨_, rfl, by rw [hlg.out]; simp, by omega, by omega, hb1⟩
      · rw [decide_eq_false h40]
        have Hn := Lib.hid (show ∀ j y, j < k + 1 → L[j]? = some y → y.d.values.length ≤ 40 from fun j y hj hy => by
          by_cases e : j = k
          · subst e; rw [Hx.out] at hy; obtain rfl := Option.some.inj hy; omega
          · exact Hall.out j y (by omega) hy)
        go_wp2_with fail
        go_roundw
        case rel => exact ⟨k + 1, by omega, by go_num, Hn.out, hb1⟩
        case measure => simp [intOf]; omega
    · obtain rfl : k = L.length := by omega
      clear hA
      have hlg := Lib.hid (show longN (L.map (·.d)) = false from longN_no (fun d hd => by
        obtain ⟨x, hx, rfl⟩ := List.mem_map.1 hd
        obtain ⟨i, hi⟩ := List.getElem?_of_mem hx
        exact Hall.out i x (List.getElem?_eq_some_iff.1 hi).1 hi))
      go_wp2_with fail
      go_ret
      exact ⟨_, rfl, by rw [hlg.out]; simp, by omega, by omega, hbr⟩
theorem c_ContainsFunc_Need (l : List Need) (v : Value) (w : World) (lo : Nat) (hs : Sl_Need lo w.heap.size w l v) :
    Calls Try.prog 73 #[v, .func (.func 74) #[] #[]] w fun e w' => e = .returned (.bool (longN l)) ∧ Below w.heap.size w w' := by
  obtain ⟨A, c, rfl⟩ := hs.form
  obtain ⟨L, hL, hS, -⟩ := open_needs hs
  go_enter Try.func73, Try.ntmps73
  go_wp2_with fail
  refine (c_IndexFunc_Need L _ _ _ hS).mono ?_
  rintro e w1 ⟨ix, rfl, hix, hix1, hix2, hb⟩
  rw [hL] at hix
  go_wp2_with fail
  go_ret
  exact ⟨ret_bool (by rw [← hix]), hb⟩
theorem c_same2 (x y : NeedV) (w : World) (lo lo' : Nat) (ha : C_Need lo w.heap.size w x.d (encN x)) (hb : C_Need lo' w.heap.size w y.d (encN y)) : Calls Try.prog 81 #[.agg #[.string x.d.key, .int .i64 x.d.op, .slice x.A x.d.values.length x.c], .agg #[.string y.d.key, .int .i64 y.d.op, .slice y.A y.d.values.length y.c]] w fun e w' => e = .returned (.bool (eqN x.d y.d)) ∧ Below w.heap.size w w' := by
  have Ha := Lib.hid (show C_Need lo w.heap.size w x.d [.string x.d.key, .int .i64 x.d.op, .slice x.A x.d.values.length x.c] from ha)
  have Hb := Lib.hid (show C_Need lo' w.heap.size w y.d [.string y.d.key, .int .i64 y.d.op, .slice y.A y.d.values.length y.c] from hb)
  have Hz := Lib.hid (cmpN_zero x.d y.d)
  have hq : Below w.heap.size w ((w.alloc (.cells #[.string x.d.key, .int .i64 x.d.op, .slice x.A x.d.values.length x.c] 98)).alloc (.cells #[.string y.d.key, .int .i64 y.d.op, .slice y.A y.d.values.length y.c] 98)) := (by repeat (first | (with_reducible exact Below.refl _ _) | (with_reducible refine ext_alloc ?_) | ((with_reducible refine ext_setCell ?_ ?_); focus (simp; (try omega))) | (with_reducible refine below_drewN ?_ _) | (with_reducible refine Below.drew ?_) | (with_reducible (apply ext_step; assumption))))
  clear ha hb
  go_enter Try.func81, Try.ntmps81
  go_wp2_with fail
  refine (c_impl_compareNeeds x.d y.d [.string x.d.key, .int .i64 x.d.op, .slice x.A x.d.values.length x.c] [.string y.d.key, .int .i64 y.d.op, .slice y.A y.d.values.length y.c] _ _ _ (C_Need.now Ha.out hq) (C_Need.now Hb.out hq)).mono ?_
  rintro e w1 ⟨rfl, hb⟩
  go_wp2_with fail
  go_ret
  exact ⟨ret_bool Hz.out, hq.trans (hb.mono hq.size)⟩
def eqV (x y : NeedV) : Bool := eqN x.d y.d
set_option maxHeartbeats 4000000 in
set_option maxRecDepth 10000 in
theorem c_CompactFunc_Need (l : List NeedV) (v : Value) (base : Nat) (w : World) (h : RowE encN 3 98 base w l v) (ha : AllN base w l) (hn : l.length ≤ 1048576) :
    Calls Try.prog 80 #[v, .func (.func 81) #[] #[]] w fun e w' => ∃ A c, e = .returned (.slice A (compF eqV l).length c) ∧ RowE encN 3 98 base w' (compF eqV l) (.slice A (compF eqV l).length c) ∧ AllN base w' (compF eqV l) ∧ Aside (fun b => v.ownBlock = some b) w w' := by
  have HA := Lib.hid ha
  have H := Lib.hid h
  by_cases h2 : l.length < 2
  · obtain ⟨A, c, rfl⟩ := h.form
    have HS := Lib.hid (compF_short eqV h2)
    have h2i : (l.length : Int) < 2 := by omega
    clear h ha
    go_enter Try.func80, Try.ntmps80
    go_wp2_with fail
    go_ret
    exact ⟨A, c, by rw [HS.out]; rfl, by rw [HS.out]; exact H.out, by rw [HS.out]; exact HA.out, Aside.refl _ _⟩
  · obtain ⟨g, cap, cur, rfl, -, hg, hlc, hc63, -, -⟩ := h.row encN_len (by omega)
    have hgl := row_lt hg
    have h2i : ¬ (l.length : Int) < 2 := by omega
    have HGb := Lib.hid (row_blk ha h)
    clear h hg ha
    go_enter Try.func80, Try.ntmps80
    go_wp2_with fail
    go_loopw [5] (fun s3 wr => ∃ k : Nat, 1 ≤ k ∧ k ≤ l.length ∧ s3 = .int .i64 k ∧ Below w.heap.size w wr ∧ FixF eqV l k) (fun s3 _ => l.length - (intOf s3).toNat)
    case atStart => exact ⟨1, Nat.le_refl _, by omega, rfl, Below.refl _ _, compF_short eqV (by rw [List.length_take]; omega)⟩
    case round =>
      obtain ⟨k, hk1, hk, rfl, hbw, hfix⟩ := hrel
      by_cases hlt : k < l.length
      · obtain ⟨-, -, -, -, cur, hg, -, hrow⟩ := (H.out.below hbw).at encN_len
        obtain ⟨x, hx⟩ := exists_at hlt
        obtain ⟨y, hy⟩ := exists_at (show k - 1 < l.length by omega)
        have hx0 : wr.cell? ⟨g, k * 3, none⟩ = some (.string x.d.key) := by rw [cell_of_row _ g _ cur _ _ hg]; exact hrow k x hx 0 (by decide)
        have hx1 : wr.cell? ⟨g, k * 3 + 1, none⟩ = some (.int .i64 x.d.op) := by rw [cell_of_row _ g _ cur _ _ hg]; exact hrow k x hx 1 (by decide)
        have hx2 : wr.cell? ⟨g, k * 3 + 2, none⟩ = some (.slice x.A x.d.values.length x.c) := by rw [cell_of_row _ g _ cur _ _ hg]; exact hrow k x hx 2 (by decide)
        have hy0 : wr.cell? ⟨g, (k - 1) * 3, none⟩ = some (.string y.d.key) := by rw [cell_of_row _ g _ cur _ _ hg]; exact hrow (k - 1) y hy 0 (by decide)
        have hy1 : wr.cell? ⟨g, (k - 1) * 3 + 1, none⟩ = some (.int .i64 y.d.op) := by rw [cell_of_row _ g _ cur _ _ hg]; exact hrow (k - 1) y hy 1 (by decide)
        have hy2 : wr.cell? ⟨g, (k - 1) * 3 + 2, none⟩ = some (.slice y.A y.d.values.length y.c) := by rw [cell_of_row _ g _ cur _ _ hg]; exact hrow (k - 1) y hy 2 (by decide)
        have hgl2 := row_lt hg
        have hk0 : (0 : Int) ≤ k := by omega
        have hk1' : (1 : Int) ≤ k := by omega
        have hk2 : (k : Int) < l.length := by omega
        have hk3 : (k : Int) - 1 < l.length := by omega
        have hkc : (k : Int) ≤ cap := by omega
        have HCx := Lib.hid ((HA.out x (List.mem_of_getElem? hx)).below hbw).C
        have HCy := Lib.hid ((HA.out y (List.mem_of_getElem? hy)).below hbw).C
        have Hx := Lib.hid hx
        have Hy := Lib.hid hy
        clear hx hy hrow hg
        go_wp2_with fail
        rcases q9 : eqN x.d y.d with _ | _
        all_goals
          refine wp_region_det 11 (by kernel_rfl) (by kernel_rfl) (by decide) ?_
          apply Exists.intro
          refine And.intro ?_ ?_
          · (intro W hW; (try simp only [Act.put, List.setIfInBounds_toArray, List.set_cons_zero, List.set_cons_succ]); first | (go_wp2_with fail; exact ⟨rfl, rfl, Below.refl _ _⟩))
          apply Exists.intro
          refine And.intro ?_ ?_
          · (intro W hW; (try simp only [Act.put, List.setIfInBounds_toArray, List.set_cons_zero, List.set_cons_succ]); first | (go_wp2_with fail; exact ⟨rfl, rfl, Below.refl _ _⟩))
          apply Exists.intro
          refine And.intro ?_ ?_
          · (intro W hW; (try simp only [Act.put, List.setIfInBounds_toArray, List.set_cons_zero, List.set_cons_succ]); first | (go_wp2_with fail; exact ⟨rfl, rfl, Below.refl _ _⟩))
          apply Exists.intro
          refine And.intro ?_ ?_
          · (intro W hW; (try simp only [Act.put, List.setIfInBounds_toArray, List.set_cons_zero, List.set_cons_succ]); first | (go_wp2_with fail; exact ⟨rfl, rfl, Below.refl _ _⟩))
          apply Exists.intro
          refine And.intro ?_ ?_
          · (intro W hW; (try simp only [Act.put, List.setIfInBounds_toArray, List.set_cons_zero, List.set_cons_succ]); first | (obtain ⟨hcW, hfW⟩ := bcell hW; have hsW := hW.size; (try simp at hsW); (try have hsW0 := lt_of_succ_le hsW); (try (have hsW1 := lt_pred hsW; (try (have hsW2 := lt_pred hsW1)))); go_wp2_with fail; exact ⟨rfl, rfl, Below.refl _ _⟩))
          apply Exists.intro
          refine And.intro ?_ ?_
          · (intro W hW; (try simp only [Act.put, List.setIfInBounds_toArray, List.set_cons_zero, List.set_cons_succ]); first | (go_wp2_with fail; exact ⟨rfl, rfl, Below.refl _ _⟩))
          apply Exists.intro
          refine And.intro ?_ ?_
          · (intro W hW; (try simp only [Act.put, List.setIfInBounds_toArray, List.set_cons_zero, List.set_cons_succ]); first | (go_wp2_with fail; exact ⟨rfl, rfl, Below.refl _ _⟩))
          apply Exists.intro
          refine And.intro ?_ ?_
          · (intro W hW; (try simp only [Act.put, List.setIfInBounds_toArray, List.set_cons_zero, List.set_cons_succ]); first | (go_wp2_with fail; exact ⟨rfl, rfl, Below.refl _ _⟩))
          apply Exists.intro
          refine And.intro ?_ ?_
          · (intro W hW; (try simp only [Act.put, List.setIfInBounds_toArray, List.set_cons_zero, List.set_cons_succ]); first | (go_wp2_with fail; exact ⟨rfl, rfl, Below.refl _ _⟩))
          apply Exists.intro
          refine And.intro ?_ ?_
          · (intro W hW; (try simp only [Act.put, List.setIfInBounds_toArray, List.set_cons_zero, List.set_cons_succ]); first | (obtain ⟨hcW, hfW⟩ := bcell hW; have hsW := hW.size; (try simp at hsW); (try have hsW0 := lt_of_succ_le hsW); (try (have hsW1 := lt_pred hsW; (try (have hsW2 := lt_pred hsW1)))); go_wp2_with fail; exact ⟨rfl, rfl, Below.refl _ _⟩))
          apply Exists.intro
          refine And.intro ?_ ?_
          · (intro W hW; (try simp only [Act.put, List.setIfInBounds_toArray, List.set_cons_zero, List.set_cons_succ]); first | (obtain ⟨hcW, hfW⟩ := bcell hW; have hsW := hW.size; (try simp at hsW); (try have hsW0 := lt_of_succ_le hsW); (try (have hsW1 := lt_pred hsW; (try (have hsW2 := lt_pred hsW1)))); go_wp2_with (first | (go_at_call 81; refine (c_same2 x y _ _ _ (C_Need.now HCx.out (by repeat (first | (with_reducible exact Below.refl _ _) | (with_reducible refine ext_alloc ?_) | ((with_reducible refine ext_setCell ?_ ?_); focus (simp; (try omega))) | (with_reducible refine below_drewN ?_ _) | (with_reducible refine Below.drew ?_) | (with_reducible (apply ext_step; assumption))))) (C_Need.now HCy.out (by repeat (first | (with_reducible exact Below.refl _ _) | (with_reducible refine ext_alloc ?_) | ((with_reducible refine ext_setCell ?_ ?_); focus (simp; (try omega))) | (with_reducible refine below_drewN ?_ _) | (with_reducible refine Below.drew ?_) | (with_reducible (apply ext_step; assumption)))))).mono ?_; rintro e w9 ⟨rfl, hb9⟩; rw [q9])); exact ⟨rfl, rfl, (by repeat (first | (with_reducible exact Below.refl _ _) | (with_reducible refine ext_alloc ?_) | ((with_reducible refine ext_setCell ?_ ?_); focus (simp; (try omega))) | (with_reducible refine below_drewN ?_ _) | (with_reducible refine Below.drew ?_) | (with_reducible (apply ext_step; assumption))))⟩))
          intro w1 hb
          (first | (have hcu2 := Cum.join hcu hb; (try clear hcu); (try clear hc); (try clear hfz); (try clear hsz); (try clear hs0); (try clear hs1); (try clear hs2); (try clear hs3); (try clear hs4); ) | have hcu2 := Cum.mk hb); have hcu := hcu2; clear hcu2; obtain ⟨hc, hfz⟩ := bcell hcu.h; have hsz := hcu.h.size; (try simp at hsz); (try have hs0 := lt_of_succ_le hsz); (try (have hs1 := lt_pred hsz; (try (have hs2 := lt_pred hs1; (try (have hs3 := lt_pred hs2; (try have hs4 := lt_pred hs3)))))))
          (try simp only [Act.put, List.setIfInBounds_toArray, List.set_cons_zero, List.set_cons_succ])
          (try simp only [List.drop_succ_cons, List.drop_nil])
          have Bq := hbw.trans (hb.mono hbw.size)
          first
            | (have hne : eqV x y = false := q9
               have Hf := Lib.hid (show FixF eqV l (k + 1) by unfold FixF; unfold FixF at hfix; rw [compF_take hk1 Hy.out Hx.out, hne, hfix, List.take_add_one, Hx.out]; rfl)
               go_wp2_with fail
               go_roundw
               case rel => exact ⟨k + 1, by omega, by omega, by go_num, Bq, Hf.out⟩
               case measure => simp [intOf]; omega)
            | skip
        have hI0 := Lib.hid (CompG.start hk1 Hy.out Hx.out hfix q9)
        have HRow := Lib.hid (H.out.below Bq)
        have HAs : Aside (fun b => b = g) w w1 := Aside.of_below Bq
        clear q9
        go_wp2_with fail
        go_loopw [5, 7] (fun s3 s5 wr => ∃ (kk k2 : Nat) (L : List NeedV), s3 = .int .i64 kk ∧ s5 = .int .i64 k2 ∧ 1 ≤ k2 ∧ k + k2 ≤ l.length ∧ CompG eqV l (k + k2) kk L ∧ RowE encN 3 98 base wr L (.slice (some ⟨g, 0, none⟩) l.length cap) ∧ Aside (fun b => b = g) w wr) (fun _ s5 _ => l.length - k - (intOf s5).toNat)
        case atStart => exact ⟨k, 1, l, rfl, rfl, Nat.le_refl _, by omega, hI0.out, HRow.out, HAs⟩
        case round =>
          obtain ⟨kk, k2, L, rfl, rfl, h1, hle, hI, hRw, hAs⟩ := hrel
          have hkk := hI.lt
          have HI := Lib.hid hI
          have HR2 := Lib.hid hRw
          have hLl := Lib.hid hI.size
          have HAw := Lib.hid (Aside.alln HA.out hAs HGb.out)
          obtain ⟨-, -, -, -, cur, hg, hcs, hrow⟩ := hRw.at encN_len
          have hfz : ∀ o, wr.frozen? ⟨g, o, none⟩ = false := fun o => frozen_row hg o
          have hgl3 := row_lt hg
          by_cases hlt2 : k + k2 < l.length
          · obtain ⟨x, hx⟩ := exists_at hlt2
            obtain ⟨y, hy⟩ := exists_at (show k + k2 - 1 < l.length by omega)
            obtain ⟨z, hz⟩ := exists_at (show kk < l.length by omega)
            have hxL := (hI.high (k + k2) (by omega)).trans hx
            have hyL := (hI.high (k + k2 - 1) (by omega)).trans hy
            have hzL := (hI.high kk (by omega)).trans hz
            have hx0 : wr.cell? ⟨g, k * 3 + k2 * 3, none⟩ = some (.string x.d.key) := by rw [cell_of_row _ g _ cur _ _ hg, show k * 3 + k2 * 3 = (k + k2) * 3 + 0 by omega]; exact hrow _ x hxL 0 (by decide)
            have hx1 : wr.cell? ⟨g, k * 3 + k2 * 3 + 1, none⟩ = some (.int .i64 x.d.op) := by rw [cell_of_row _ g _ cur _ _ hg, show k * 3 + k2 * 3 + 1 = (k + k2) * 3 + 1 by omega]; exact hrow _ x hxL 1 (by decide)
            have hx2 : wr.cell? ⟨g, k * 3 + k2 * 3 + 2, none⟩ = some (.slice x.A x.d.values.length x.c) := by rw [cell_of_row _ g _ cur _ _ hg, show k * 3 + k2 * 3 + 2 = (k + k2) * 3 + 2 by omega]; exact hrow _ x hxL 2 (by decide)
            have hy0 : wr.cell? ⟨g, k * 3 + (k2 - 1) * 3, none⟩ = some (.string y.d.key) := by rw [cell_of_row _ g _ cur _ _ hg, show k * 3 + (k2 - 1) * 3 = (k + k2 - 1) * 3 + 0 by omega]; exact hrow _ y hyL 0 (by decide)
            have hy1 : wr.cell? ⟨g, k * 3 + (k2 - 1) * 3 + 1, none⟩ = some (.int .i64 y.d.op) := by rw [cell_of_row _ g _ cur _ _ hg, show k * 3 + (k2 - 1) * 3 + 1 = (k + k2 - 1) * 3 + 1 by omega]; exact hrow _ y hyL 1 (by decide)
            have hy2 : wr.cell? ⟨g, k * 3 + (k2 - 1) * 3 + 2, none⟩ = some (.slice y.A y.d.values.length y.c) := by rw [cell_of_row _ g _ cur _ _ hg, show k * 3 + (k2 - 1) * 3 + 2 = (k + k2 - 1) * 3 + 2 by omega]; exact hrow _ y hyL 2 (by decide)
            have hz0 : wr.cell? ⟨g, kk * 3, none⟩ = some (.string z.d.key) := by rw [cell_of_row _ g _ cur _ _ hg]; exact hrow _ z hzL 0 (by decide)
            have hz1 : wr.cell? ⟨g, kk * 3 + 1, none⟩ = some (.int .i64 z.d.op) := by rw [cell_of_row _ g _ cur _ _ hg]; exact hrow _ z hzL 1 (by decide)
            have hz2 : wr.cell? ⟨g, kk * 3 + 2, none⟩ = some (.slice z.A z.d.values.length z.c) := by rw [cell_of_row _ g _ cur _ _ hg]; exact hrow _ z hzL 2 (by decide)
            have e1 : (1 : Int) ≤ k2 := by omega
            have e2 : (k2 : Int) < l.length - k := by omega
            have e3 : (0 : Int) ≤ k2 := by omega
            have e4 : (k2 : Int) - 1 < l.length - k := by omega
            have e5 : k2 < l.length - k := by omega
            have e6 : (kk : Int) < l.length := by omega
            have e7 : (0 : Int) ≤ kk := by omega
            have HCx := Lib.hid (HAw.out x (List.mem_of_getElem? hx)).C
            have HCy := Lib.hid (HAw.out y (List.mem_of_getElem? hy)).C
            have Hx := Lib.hid hx
            have Hy := Lib.hid hy
            clear hx hy hz hxL hyL hzL hrow hg hcs hI hRw
            go_wp2_with fail
            rcases q9 : eqN x.d y.d with _ | _
            all_goals
              refine wp_region_det 12 (by kernel_rfl) (by kernel_rfl) (by decide) ?_
              apply Exists.intro
              refine And.intro ?_ ?_
              · (intro W hW; (try simp only [Act.put, List.setIfInBounds_toArray, List.set_cons_zero, List.set_cons_succ]); first | (go_wp2_with fail; exact ⟨rfl, rfl, Below.refl _ _⟩))
              apply Exists.intro
              refine And.intro ?_ ?_
              · (intro W hW; (try simp only [Act.put, List.setIfInBounds_toArray, List.set_cons_zero, List.set_cons_succ]); first | (go_wp2_with fail; exact ⟨rfl, rfl, Below.refl _ _⟩))
              apply Exists.intro
              refine And.intro ?_ ?_
              · (intro W hW; (try simp only [Act.put, List.setIfInBounds_toArray, List.set_cons_zero, List.set_cons_succ]); first | (go_wp2_with fail; exact ⟨rfl, rfl, Below.refl _ _⟩))
              apply Exists.intro
              refine And.intro ?_ ?_
              · (intro W hW; (try simp only [Act.put, List.setIfInBounds_toArray, List.set_cons_zero, List.set_cons_succ]); first | (go_wp2_with fail; exact ⟨rfl, rfl, Below.refl _ _⟩))
              apply Exists.intro
              refine And.intro ?_ ?_
              · (intro W hW; (try simp only [Act.put, List.setIfInBounds_toArray, List.set_cons_zero, List.set_cons_succ]); first | (obtain ⟨hcW, hfW⟩ := bcell hW; have hsW := hW.size; (try simp at hsW); (try have hsW0 := lt_of_succ_le hsW); (try (have hsW1 := lt_pred hsW; (try (have hsW2 := lt_pred hsW1)))); go_wp2_with fail; exact ⟨rfl, rfl, Below.refl _ _⟩))
              apply Exists.intro
              refine And.intro ?_ ?_
              · (intro W hW; (try simp only [Act.put, List.setIfInBounds_toArray, List.set_cons_zero, List.set_cons_succ]); first | (go_wp2_with fail; exact ⟨rfl, rfl, Below.refl _ _⟩))
              apply Exists.intro
              refine And.intro ?_ ?_
              · (intro W hW; (try simp only [Act.put, List.setIfInBounds_toArray, List.set_cons_zero, List.set_cons_succ]); first | (go_wp2_with fail; exact ⟨rfl, rfl, Below.refl _ _⟩))
              apply Exists.intro
              refine And.intro ?_ ?_
              · (intro W hW; (try simp only [Act.put, List.setIfInBounds_toArray, List.set_cons_zero, List.set_cons_succ]); first | (go_wp2_with fail; exact ⟨rfl, rfl, Below.refl _ _⟩))
              apply Exists.intro
              refine And.intro ?_ ?_
              · (intro W hW; (try simp only [Act.put, List.setIfInBounds_toArray, List.set_cons_zero, List.set_cons_succ]); first | (go_wp2_with fail; exact ⟨rfl, rfl, Below.refl _ _⟩))
              apply Exists.intro
              refine And.intro ?_ ?_
              · (intro W hW; (try simp only [Act.put, List.setIfInBounds_toArray, List.set_cons_zero, List.set_cons_succ]); first | (obtain ⟨hcW, hfW⟩ := bcell hW; have hsW := hW.size; (try simp at hsW); (try have hsW0 := lt_of_succ_le hsW); (try (have hsW1 := lt_pred hsW; (try (have hsW2 := lt_pred hsW1)))); go_wp2_with fail; exact ⟨rfl, rfl, Below.refl _ _⟩))
              apply Exists.intro
              refine And.intro ?_ ?_
              · (intro W hW; (try simp only [Act.put, List.setIfInBounds_toArray, List.set_cons_zero, List.set_cons_succ]); first | (obtain ⟨hcW, hfW⟩ := bcell hW; have hsW := hW.size; (try simp at hsW); (try have hsW0 := lt_of_succ_le hsW); (try (have hsW1 := lt_pred hsW; (try (have hsW2 := lt_pred hsW1)))); go_wp2_with (first | (go_at_call 81; refine (c_same2 x y _ _ _ (C_Need.now HCx.out (by repeat (first | (with_reducible exact Below.refl _ _) | (with_reducible refine ext_alloc ?_) | ((with_reducible refine ext_setCell ?_ ?_); focus (simp; (try omega))) | (with_reducible refine below_drewN ?_ _) | (with_reducible refine Below.drew ?_) | (with_reducible (apply ext_step; assumption))))) (C_Need.now HCy.out (by repeat (first | (with_reducible exact Below.refl _ _) | (with_reducible refine ext_alloc ?_) | ((with_reducible refine ext_setCell ?_ ?_); focus (simp; (try omega))) | (with_reducible refine below_drewN ?_ _) | (with_reducible refine Below.drew ?_) | (with_reducible (apply ext_step; assumption)))))).mono ?_; rintro e w9 ⟨rfl, hb9⟩; rw [q9])); exact ⟨rfl, rfl, (by repeat (first | (with_reducible exact Below.refl _ _) | (with_reducible refine ext_alloc ?_) | ((with_reducible refine ext_setCell ?_ ?_); focus (simp; (try omega))) | (with_reducible refine below_drewN ?_ _) | (with_reducible refine Below.drew ?_) | (with_reducible (apply ext_step; assumption))))⟩))
              apply Exists.intro
              refine And.intro ?_ ?_
              · (intro W hW; (try simp only [Act.put, List.setIfInBounds_toArray, List.set_cons_zero, List.set_cons_succ]); first | (go_wp2_with fail; exact ⟨rfl, rfl, Below.refl _ _⟩))
              intro w1 hb
              (first | (have hcu2 := Cum.join hcu hb; (try clear hcu); (try clear hc); (try clear hfz); (try clear hsz); (try clear hs0); (try clear hs1); (try clear hs2); (try clear hs3); (try clear hs4); ) | have hcu2 := Cum.mk hb); have hcu := hcu2; clear hcu2; obtain ⟨hc, hfz⟩ := bcell hcu.h; have hsz := hcu.h.size; (try simp at hsz); (try have hs0 := lt_of_succ_le hsz); (try (have hs1 := lt_pred hsz; (try (have hs2 := lt_pred hs1; (try (have hs3 := lt_pred hs2; (try have hs4 := lt_pred hs3)))))))
              (try simp only [Act.put, List.setIfInBounds_toArray, List.set_cons_zero, List.set_cons_succ])
              (try simp only [List.drop_succ_cons, List.drop_nil])
              have Bq := hAs.trans (Aside.of_below hb)
              have HR3 := Lib.hid (HR2.out.below hb)
              have hfw : ∀ o, w1.frozen? ⟨g, o, none⟩ = false := (by intro o; obtain ⟨-, -, -, -, cur9, hg9, -⟩ := HR3.out.at encN_len; exact frozen_row hg9 o)
              have hkL := Lib.hid (show kk < L.length by rw [hLl.out]; omega)
              first
                | (have heq : eqV x y = true := q9
                   have HI2 := Lib.hid (HI.out.skip (show l[k + k2 - 1]? = some y from Hy.out) Hx.out heq)
                   go_wp2_with fail
                   go_roundw
                   case rel => exact ⟨kk, k2 + 1, L, rfl, by go_num, by omega, by omega, HI2.out, HR3.out, Bq⟩
                   case measure => simp [intOf]; omega)
                | (have hne : eqV x y = false := q9
                   have HI2 := Lib.hid (HI.out.keep (show l[k + k2 - 1]? = some y from Hy.out) Hx.out hne)
                   have HR4 := Lib.hid (HR3.out.store encN_len (by decide) hkL.out (x := x))
                   clear q9
                   go_wp2_with fail
                   go_roundw
                   case rel => exact ⟨kk + 1, k2 + 1, L.set kk x, by go_num, by go_num, by omega, by omega, HI2.out, HR4.out, Bq.trans (aside_setCells (S := fun b => b = g) (g := g) rfl (encN x) (kk * 3) _)⟩
                   case measure => simp [intOf]; omega)
          · have hend : k + k2 = l.length := by omega
            have hkl : kk < l.length := by omega
            have hks : kk * 3 + (l.length - kk) * 3 = l.length * 3 := by omega
            obtain ⟨zs, hzl, hcl⟩ := run_clear_row (P := Try.prog) wr 52 98 (.agg #[.string ⟨#[]⟩, .int .i64 0, .slice none 0 0]) 3 Try.underlying52 (fun _ => by kernel_rfl) rfl (by decide) g (kk * 3) (l.length - kk) (cap - kk) (by omega) (fun j hj => by rw [cell_of_row _ g _ cur _ _ hg, Array.getElem?_eq_getElem (by omega)]; rfl) (fun j _ => hfz _)
            have HI2 := Lib.hid (show (compF eqV l).length = kk ∧ L.take kk = compF eqV l by have a := hI.len; have b := hI.low; rw [hend, List.take_length] at a b; exact ⟨a, b⟩)
            have HR4 := Lib.hid (hRw.cut (zs := zs) encN_len (show kk ≤ L.length by rw [hLl.out]; omega))
            have HAz := Lib.hid (show Aside (fun b => b = g) w (wr.setCells g (kk * 3) zs) from hAs.trans (aside_setCells (S := fun b => b = g) (g := g) rfl zs (kk * 3) _))
            have HAf := Lib.hid (show AllN base (wr.setCells g (kk * 3) zs) (compF eqV l) from fun z hz => Aside.alln HA.out HAz.out HGb.out z ((compF_sub eqV l).subset hz))
            have e6 : (kk : Int) ≤ l.length := by omega
            have e7 : (0 : Int) ≤ kk := by omega
            have e8 : (kk : Int) ≤ cap := by omega
            have e9 : ¬ (k2 : Int) < l.length - k := by omega
            have HH := Lib.hid hend
            clear hI hRw hrow hg hcs hzl hks hend
            go_wp2_with fail
            go_ret
            exact ⟨some ⟨g, 0, none⟩, cap, by rw [HI2.out.1]; rfl, by rw [HI2.out.1, ← HI2.out.2]; exact HR4.out, HAf.out, HAz.out.mono (fun b hb => by subst hb; rfl)⟩
      · obtain rfl : k = l.length := by omega
        have HF := Lib.hid (show compF eqV l = l by unfold FixF at hfix; rw [List.take_length] at hfix; exact hfix)
        have hnn : ¬ (l.length : Int) < l.length := by omega
        go_wp2_with fail
        go_ret
        exact ⟨some ⟨g, 0, none⟩, cap, by rw [HF.out]; rfl, by rw [HF.out]; exact H.out.below hbw, by rw [HF.out]; exact fun z hz => (HA.out z hz).below hbw, Aside.of_below hbw⟩
end Go.Proofs.Ytmhlnbihppojmaa
