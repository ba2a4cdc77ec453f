/- Contracts of the laws' own toTaintS and markTaintS over rows that the call owns. No conditions. Written by wip/tools/genrow.py. -/
import Derived.Test.YtmhlnbihppojmaaRow
import Derived.Test.YtmhlnbihppojmaaHTaint
namespace Go.Proofs.Ytmhlnbihppojmaa
open Go.RowKit

abbrev Own_Taint (S : Nat → Prop) (w : World) (l : List Taint) (v : Value) : Prop := OwnR C_Taint 3 45 S w l v
def mkTaint (k : Int) : Taint := ⟨mkI (k), mkI (k + 1), k + 1 + 1⟩
/-- The members of l bear the marks from k on. -/
def MkTaints (k : Int) (l : List Taint) : Prop := ∀ (i : Nat) (d : Taint), l[i]? = some d → d = mkTaint (k + 3 * i)
theorem c_laws_toTaintSO (l : List Taint) (v : Value) (w : World) (lo : Nat) (hs : Sl_Taint lo w.heap.size w l v) (hn : l.length ≤ 1048576) :
    Calls Try.prog 10 #[v] w fun e w' => ∃ A c, e = .returned (.slice A l.length c) ∧ Own_Taint (fun b => w.heap.size ≤ b ∧ b < w'.heap.size) w' l (.slice A l.length c) ∧ Below w.heap.size w w' := by
  obtain ⟨A, c, rfl, hlc, hc, hA⟩ := hs
  have hmk := run_make_slice (P := Try.prog) (z := .agg #[.string ⟨#[]⟩, .string ⟨#[]⟩, .int .i64 0]) (size := 3) (bytes := 40) Try.underlying24 (by kernel_rfl) l.length (by omega) (by omega)
  go_enter Try.func10, Try.ntmps10
  go_wp2_with fail
  go_loopw [4] (fun i wr => ∃ (k : Nat) (cs : Array Value), k ≤ l.length ∧ i = .int .i64 k ∧ Below w.heap.size w wr ∧ wr.heap[w.heap.size]? = some (.cells cs 45 (0, 0)) ∧ Part (C_Taint) 3 l k cs) (fun i _ => l.length - (intOf i).toNat)
  case atStart => exact ⟨0, _, Nat.zero_le _, rfl, (by repeat (first | (with_reducible exact Below.refl _ _) | (with_reducible refine ext_alloc ?_) | ((with_reducible refine ext_setCell ?_ ?_); focus (simp; (try omega))) | (with_reducible refine below_drewN ?_ _) | (with_reducible refine Below.drew ?_) | (with_reducible (apply ext_step; assumption)))), heap_alloc_new _ _, Part.zero (by simp [size_madeCells])⟩
  case round =>
    obtain ⟨k, cs, hk, rfl, hbr, hg, hp⟩ := hrel
    by_cases hlt : k < l.length
    · obtain ⟨b, o, rfl, -, hb2, hcell⟩ := hA (by omega)
      obtain ⟨d, hd⟩ := exists_at hlt
      obtain ⟨es, -, hcs, hC⟩ := hcell k d hd
      have hC' := hC
      obtain ⟨rfl, ea0, ea1, ea2⟩ := hC'
      have hc0 := (hbr.cell (p := ⟨b, o + k * 3 + 0, none⟩) (by simp; omega)).trans (hcs 0 (by omega))
      simp at hc0
      have hc1 := (hbr.cell (p := ⟨b, o + k * 3 + 1, none⟩) (by simp; omega)).trans (hcs 1 (by omega))
      simp at hc1
      have hc2 := (hbr.cell (p := ⟨b, o + k * 3 + 2, none⟩) (by simp; omega)).trans (hcs 2 (by omega))
      simp at hc2
      obtain ⟨x0, hx0⟩ := row_cell hg (o := k * 3 + 0) (by rw [hp.1]; omega)
      have hf0 := frozen_row hg (k * 3 + 0)
      rw [Nat.add_zero] at hx0 hf0
      obtain ⟨x1, hx1⟩ := row_cell hg (o := k * 3 + 1) (by rw [hp.1]; omega)
      have hf1 := frozen_row hg (k * 3 + 1)
      obtain ⟨x2, hx2⟩ := row_cell hg (o := k * 3 + 2) (by rw [hp.1]; omega)
      have hf2 := frozen_row hg (k * 3 + 2)
      have hgl := row_lt hg
      clear hcs hcell hA
      go_wp2_with (go_at_call 45; refine (c_laws_toTaint d _ _ hC).mono ?_; rintro e w1 ⟨rfl, hb⟩; (first | (have hcu2 := Cum.join hcu hb; (try clear hcu); (try clear hc); (try clear hfz); (try clear hsz); (try clear hs0); (try clear hs1); (try clear hs2); (try clear hs3); (try clear hs4); ) | have hcu2 := Cum.mk hb); have hcu := hcu2; clear hcu2; obtain ⟨hc, hfz⟩ := bcell hcu.h; have hsz := hcu.h.size; (try simp at hsz); (try have hs0 := lt_of_succ_le hsz); (try (have hs1 := lt_pred hsz; (try (have hs2 := lt_pred hs1; (try (have hs3 := lt_pred hs2; (try have hs4 := lt_pred hs3))))))))
      go_roundw
      case rel => exact ⟨k + 1, putAt cs (k * 3) [.string d.key, .string d.value, .int .i64 d.effect], by omega, by go_num, (by repeat (first | (with_reducible exact Below.refl _ _) | (with_reducible refine ext_alloc ?_) | ((with_reducible refine ext_setCell ?_ ?_); focus (simp; (try omega))) | (with_reducible refine below_drewN ?_ _) | (with_reducible refine Below.drew ?_) | (with_reducible (apply ext_step; assumption)))), heap_putCells [.string d.key, .string d.value, .int .i64 d.effect] _ _ _ _ _ ((hb.block _ hgl).trans hg), hp.store hd rfl hC⟩
      case measure => simp [intOf]; omega
    · obtain rfl : k = l.length := by omega
      clear hA
      go_wp2_with fail
      go_ret
      exact ⟨_, _, rfl, OwnR.of_part hp hg ⟨Nat.le_refl _, row_lt hg⟩ (Nat.le_refl _) (by omega), (by repeat (first | (with_reducible exact Below.refl _ _) | (with_reducible refine ext_alloc ?_) | ((with_reducible refine ext_setCell ?_ ?_); focus (simp; (try omega))) | (with_reducible refine below_drewN ?_ _) | (with_reducible refine Below.drew ?_) | (with_reducible (apply ext_step; assumption))))⟩
set_option maxHeartbeats 1000000 in
theorem c_laws_markTaintS (l : List Taint) (v : Value) (x : Int) (w : World) (S : Nat → Prop) (h : Own_Taint S w l v) (hSb : ∀ b, S b → b < w.heap.size) (h1 : 0 < x) (h2 : x + 3 * l.length ≤ 1152921504606846976) :
    Calls Try.prog 13 #[v, .int .i64 x] w fun e w' => ∃ l', e = .returned (.int .i64 (x + 3 * l.length)) ∧ l'.length = l.length ∧ Own_Taint S w' l' v ∧ MkTaints x l' ∧ Aside S w w' := by
  obtain ⟨A, c, rfl, hlc, hc, hA⟩ := h
  by_cases hz : l.length = 0
  · obtain rfl : l = [] := List.eq_nil_of_length_eq_zero hz
    clear hA
    go_enter Try.func13, Try.ntmps13
    go_wp2_with fail
    go_loopw [1, 5] (fun y i wr => y = .int .i64 x ∧ i = .int .i64 0 ∧ wr = w) (fun _ _ _ => 0)
    case atStart => exact ⟨rfl, rfl, rfl⟩
    case round =>
      obtain ⟨rfl, rfl, rfl⟩ := hrel
      go_wp2_with fail
      go_ret
      exact ⟨[], ret_int (by simp), rfl, ⟨A, c, rfl, by simp, hc, fun h => by simp at h⟩, fun i s h => by simp at h, Aside.refl _ _⟩
  · obtain ⟨g, cur, rfl, hg, hr, hcur⟩ := hA (by omega)
    have hgl := hSb g hg
    go_enter Try.func13, Try.ntmps13
    go_wp2_with fail
    go_loopw [1, 5] (fun y i wr => ∃ (k : Nat) (l' : List Taint) (cur' : Array Value), k ≤ l.length ∧ l'.length = l.length ∧ i = .int .i64 k ∧ y = .int .i64 (x + 3 * k) ∧ wr.heap[g]? = some (.cells cur' 45 (0, 0)) ∧ RowAt C_Taint 3 cur' l' ∧ (∀ (j : Nat) (d : Taint), j < k → l'[j]? = some d → d = mkTaint (x + 3 * j)) ∧ Aside S w wr) (fun _ i _ => l.length - (intOf i).toNat)
    case atStart => exact ⟨0, l, cur, Nat.zero_le _, rfl, rfl, by simp, hr, hcur, fun j s h => by omega, Aside.refl _ _⟩
    case round =>
      obtain ⟨k, l', cur', hk, hl', rfl, rfl, hr', hcur', hmk, has⟩ := hrel
      have Hm := Lib.hid hmk
      have Hc := Lib.hid hcur'
      clear hmk hcur hA
      by_cases hlt : k < l.length
      · obtain ⟨d, hd⟩ := exists_at (l := l') (k := k) (by omega)
        have hsz := hcur'.size hd (by decide)
        have hC0 := hcur' k d hd
        unfold C_Taint at hC0
        obtain ⟨es, -, hes, hC⟩ := hC0
        obtain ⟨rfl, -⟩ := hC
        obtain ⟨y, hy⟩ : ∃ y : Int, y = x + 3 * k := ⟨_, rfl⟩
        have hy0 : 0 < y := by omega
        have hy1 : y + 3 ≤ 1152921504606846976 := by omega
        have Hy := Lib.hid hy
        rw [← hy]
        have hgw := row_lt hr'
        have hk1 : (k : Int) < l.length := by omega
        have hk0 : (0 : Int) ≤ k := by omega
        have Hes := Lib.hid hes
        have Hd := Lib.hid hd
        clear hy hcur' hes hd
        go_wp2_with fail
        refine (c_laws_markText _ _ (by omega) (by omega)).mono ?_
        rintro e w1 ⟨rfl, hb1⟩
        have r1 := (hb1.block g (by first | exact hgw | (simp; omega))).trans (hr')
        have x0 : w1.cell? ⟨g, k * 3, none⟩ = some (.string d.key) := by rw [cell_of_row w1 g _ _ _ _ r1]; exact Hes.out 0 (by decide)
        have f0 := frozen_row r1 (k * 3)
        have x1 : w1.cell? ⟨g, k * 3 + 1, none⟩ = some (.string d.value) := by rw [cell_of_row w1 g _ _ _ _ r1]; exact Hes.out 1 (by decide)
        have f1 := frozen_row r1 (k * 3 + 1)
        have x2 : w1.cell? ⟨g, k * 3 + 2, none⟩ = some (.int .i64 d.effect) := by rw [cell_of_row w1 g _ _ _ _ r1]; exact Hes.out 2 (by decide)
        have f2 := frozen_row r1 (k * 3 + 2)
        have hgw := row_lt r1
        have hs1 := hb1.size
        go_wp2_with fail
        refine (c_laws_markText _ _ (by omega) (by omega)).mono ?_
        rintro e w2 ⟨rfl, hb2⟩
        have r2 := (hb2.block g (by first | exact hgw | (simp; omega))).trans (heap_setCell_same _ g (k * 3) _ _ _ (r1))
        clear x0 f0 x1 f1 x2 f2
        have x1 : w2.cell? ⟨g, k * 3 + 1, none⟩ = some (.string d.value) := by rw [cell_of_row w2 g _ _ _ _ r2, Array.getElem?_setIfInBounds_ne (by omega)]; exact Hes.out 1 (by decide)
        have f1 := frozen_row r2 (k * 3 + 1)
        have x2 : w2.cell? ⟨g, k * 3 + 2, none⟩ = some (.int .i64 d.effect) := by rw [cell_of_row w2 g _ _ _ _ r2, Array.getElem?_setIfInBounds_ne (by omega)]; exact Hes.out 2 (by decide)
        have f2 := frozen_row r2 (k * 3 + 2)
        have hgw := row_lt r2
        have hs2 := hb2.size
        go_wp2_with fail
        go_roundw
        case rel =>
          have hI : ∀ z : Int, 0 < z → z ≤ 4611686018427387904 → I64 z := fun z h h' => ⟨by omega, by omega⟩
          refine ⟨k + 1, l'.set k (mkTaint y), putAt cur' (k * 3) [.string (mkI (y)), .string (mkI (y + 1)), .int .i64 (y + 1 + 1)], by omega, by simp [hl'], by go_num, ?_, heap_setCell_same _ g (k * 3 + 2) _ _ _ (heap_setCell_same _ g (k * 3 + 1) _ _ _ (r2)), Hc.out.set rfl ?_ hsz, fun j s hj h => ?_, ?_⟩
          · exact congrArg (Value.int .i64) (by have := Hy.out; omega)
          · exact ⟨rfl, mkI_size _ (by omega), mkI_size _ (by omega), (show I64 (y + 1 + 1) from hI _ (by omega) (by omega))⟩
          · rw [List.getElem?_set] at h
            by_cases he : k = j
            · subst he
              rw [if_pos rfl, if_pos (by omega)] at h
              obtain rfl := Option.some.inj h
              rw [← Hy.out]
            · rw [if_neg he] at h
              exact Hm.out j s (by omega) h
          · refine has.trans ?_
            exact Aside.setCell (Aside.setCell (Aside.trans (Aside.setCell (Aside.trans (Aside.refl _ _) (Aside.of_below hb1)) hg) (Aside.of_below hb2)) hg) hg
        case measure => simp [intOf]; omega
      · obtain rfl : k = l.length := by omega
        go_wp2_with fail
        go_ret
        exact ⟨l', rfl, hl', ⟨_, c, by rw [hl'], by omega, hc, fun _ => ⟨g, cur', rfl, hg, hr', Hc.out⟩⟩, fun i s h => Hm.out i s (by have := (List.getElem?_eq_some_iff.1 h).1; omega) h, has⟩
end Go.Proofs.Ytmhlnbihppojmaa
