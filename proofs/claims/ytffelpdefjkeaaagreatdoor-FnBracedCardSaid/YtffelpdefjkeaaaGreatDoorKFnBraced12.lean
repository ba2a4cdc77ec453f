/- Written by wip/tools/pack.py: the texts that FnBraced needs, without what it does not need. No conditions. -/
import Derived.Test.YtffelpdefjkeaaaGreatDoorKFnBraced11
import Derived.Test.YtffelpdefjkeaaaGreatDoorKFnBraced1
import Derived.Test.YtffelpdefjkeaaaGreatDoorKFnBraced10
import Derived.Test.YtffelpdefjkeaaaGreatDoorKFnBraced8
namespace Go.Proofs.YtffelpdefjkeaaaGreatDoor
open Go.RowKit Go.Lib
def rdC (A : Option Addr) (n c : Nat) (p : Nat) (E : Int) (m : Nat) (f : Flt) : Array Value := #[.slice A n c, .int .i64 p, .int .i64 E, .int .i64 m, .int .i64 f.code, .int .i64 f.at', .string f.path]
/-- The reader's box b: the signs L, at sign p, the text's end E, m values counted, the fault f. -/
def RdAt (L : List SignD) (E : Int) (b : Nat) (p m : Nat) (f : Flt) (w : World) : Prop :=
  ∃ (A : Option Addr) (c : Nat), w.heap[b]? = some (.cells (rdC A L.length c p E m f) 56 (0, 0)) ∧ SignsE 0 w L (.slice A L.length c) ∧ ∀ g, (Value.slice A L.length c).ownBlock = some g → g < b
theorem RdAt.lt {L : List SignD} {E : Int} {b p m : Nat} {f : Flt} {w : World} (h : RdAt L E b p m f w) : b < w.heap.size := by
  obtain ⟨A, c, h1, -, -⟩ := h
  exact row_lt h1
theorem RdAt.below {L : List SignD} {E : Int} {b p m : Nat} {f : Flt} {w w' : World} (h : RdAt L E b p m f w) (hb : Below w.heap.size w w') : RdAt L E b p m f w' := by
  obtain ⟨A, c, h1, h2, h3⟩ := h
  exact ⟨A, c, (hb.block b (row_lt h1)).trans h1, h2.below hb, h3⟩
theorem row7r {w : World} {b : Nat} {a0 a1 a2 a3 a4 a5 a6 : Value} {e : TypeId} (hr : w.heap[b]? = some (.cells #[a0, a1, a2, a3, a4, a5, a6] e (0, 0))) :
    w.cell? ⟨b, 0, none⟩ = some a0 ∧ w.cell? ⟨b, 1, none⟩ = some a1 ∧ w.cell? ⟨b, 2, none⟩ = some a2 ∧ w.cell? ⟨b, 3, none⟩ = some a3 ∧ w.cell? ⟨b, 4, none⟩ = some a4 ∧ w.cell? ⟨b, 5, none⟩ = some a5 ∧ w.cell? ⟨b, 6, none⟩ = some a6 ∧ ∀ o, w.frozen? ⟨b, o, none⟩ = false :=
  ⟨by rw [cell_of_row _ _ _ _ _ _ hr]; rfl, by rw [cell_of_row _ _ _ _ _ _ hr]; rfl, by rw [cell_of_row _ _ _ _ _ _ hr]; rfl, by rw [cell_of_row _ _ _ _ _ _ hr]; rfl, by rw [cell_of_row _ _ _ _ _ _ hr]; rfl, by rw [cell_of_row _ _ _ _ _ _ hr]; rfl, by rw [cell_of_row _ _ _ _ _ _ hr]; rfl, fun o => frozen_row hr o⟩
/-- The sign at p lies in the row. -/
theorem sign_row {w : World} {L : List SignD} {A : Option Addr} {c p : Nat} (h : SignsE 0 w L (.slice A L.length c)) (hp : p < L.length) :
    ∃ (g : Nat) (x : SignD), A = some ⟨g, 0, none⟩ ∧ L[p]? = some x ∧ L.length ≤ c ∧ g < w.heap.size ∧ w.cell? ⟨g, p * 4, none⟩ = some (.int .i64 x.kind) ∧ w.cell? ⟨g, p * 4 + 1, none⟩ = some (.string x.text) ∧ w.cell? ⟨g, p * 4 + 2, none⟩ = some (.int .i64 x.num) ∧ w.cell? ⟨g, p * 4 + 3, none⟩ = some (.int .i64 x.at') := by
  obtain ⟨g, cap, cur, hv, -, hg, h1, h2, -, h4⟩ := RowE.row encSg_len h (by omega)
  simp only [Value.slice.injEq] at hv
  obtain ⟨rfl, -, rfl⟩ := hv
  obtain ⟨x, hx⟩ : ∃ x, L[p]? = some x := ⟨L[p], List.getElem?_eq_getElem hp⟩
  exact ⟨g, x, rfl, hx, h1, row_lt hg, by rw [cell_of_row _ g _ cur _ _ hg]; exact h4 p x hx 0 (by decide), by rw [cell_of_row _ g _ cur _ _ hg]; exact h4 p x hx 1 (by decide), by rw [cell_of_row _ g _ cur _ _ hg]; exact h4 p x hx 2 (by decide), by rw [cell_of_row _ g _ cur _ _ hg]; exact h4 p x hx 3 (by decide)⟩
set_option maxHeartbeats 4000000 in
set_option maxRecDepth 20000 in
theorem c_rd_kind (L : List SignD) (E : Int) (b p m : Nat) (f : Flt) (w : World) (hp : p ≤ 1048577) (h : RdAt L E b p m f w) :
    Calls Tryz.prog 67 #[.pointer (some ⟨b, 0, none⟩)] w fun e w' => e = .returned (.int .i64 (kindAt L p)) ∧ Below w.heap.size w w' := by
  obtain ⟨A, c, hbox, hrow, hne⟩ := h
  have HB := Lib.hid hbox
  unfold rdC at hbox
  obtain ⟨a0, a1, a2, a3, a4, a5, a6, af⟩ := row7r hbox
  have l0 := row_lt hbox
  clear hbox
  by_cases hlt : (p : Int) < L.length
  · have hz0 : (0 : Int) ≤ p := by omega
    have HRow := Lib.hid hrow
    clear hrow hne
    go_enter Tryz.func67, Tryz.ntmps67
    go_wp2_with fail
    refine wp_region_det 10 (by kernel_rfl) (by kernel_rfl) (by decide) ?_
    apply Exists.intro
    refine And.intro ?_ ?_
    · (intro W hW; (try simp only [Act.put, List.setIfInBounds_toArray, List.set_cons_zero, List.set_cons_succ]); first | (go_wp2_with fail; exact ⟨rfl, rfl, Below.refl _ _⟩))
    apply Exists.intro
    refine And.intro ?_ ?_
    · (intro W hW; (try simp only [Act.put, List.setIfInBounds_toArray, List.set_cons_zero, List.set_cons_succ]); first | (go_wp2_with fail; exact ⟨rfl, rfl, Below.refl _ _⟩))
    apply Exists.intro
    refine And.intro ?_ ?_
    · (intro W hW; (try simp only [Act.put, List.setIfInBounds_toArray, List.set_cons_zero, List.set_cons_succ]); first | (go_wp2_with fail; exact ⟨rfl, rfl, Below.refl _ _⟩))
    apply Exists.intro
    refine And.intro ?_ ?_
    · (intro W hW; (try simp only [Act.put, List.setIfInBounds_toArray, List.set_cons_zero, List.set_cons_succ]); first | (obtain ⟨hcW, hfW⟩ := bcell hW; have hsW := hW.size; (try simp at hsW); (try have hsW0 := lt_of_succ_le hsW); (try (have hsW1 := lt_pred hsW; (try (have hsW2 := lt_pred hsW1)))); go_wp2_with fail; exact ⟨rfl, rfl, Below.refl _ _⟩))
    apply Exists.intro
    refine And.intro ?_ ?_
    · (intro W hW; (try simp only [Act.put, List.setIfInBounds_toArray, List.set_cons_zero, List.set_cons_succ]); first | (go_wp2_with fail; exact ⟨rfl, rfl, Below.refl _ _⟩))
    apply Exists.intro
    refine And.intro ?_ ?_
    · (intro W hW; (try simp only [Act.put, List.setIfInBounds_toArray, List.set_cons_zero, List.set_cons_succ]); first | (go_wp2_with fail; exact ⟨rfl, rfl, Below.refl _ _⟩))
    apply Exists.intro
    refine And.intro ?_ ?_
    · (intro W hW; (try simp only [Act.put, List.setIfInBounds_toArray, List.set_cons_zero, List.set_cons_succ]); first | (go_wp2_with fail; exact ⟨rfl, rfl, Below.refl _ _⟩))
    apply Exists.intro
    refine And.intro ?_ ?_
    · (intro W hW; (try simp only [Act.put, List.setIfInBounds_toArray, List.set_cons_zero, List.set_cons_succ]); first | (obtain ⟨hcW, hfW⟩ := bcell hW; have hsW := hW.size; (try simp at hsW); (try have hsW0 := lt_of_succ_le hsW); (try (have hsW1 := lt_pred hsW; (try (have hsW2 := lt_pred hsW1)))); go_wp2_with fail; exact ⟨rfl, rfl, Below.refl _ _⟩))
    apply Exists.intro
    refine And.intro ?_ ?_
    · (intro W hW; (try simp only [Act.put, List.setIfInBounds_toArray, List.set_cons_zero, List.set_cons_succ]); first | (go_wp2_with fail; exact ⟨rfl, rfl, Below.refl _ _⟩))
    apply Exists.intro
    refine And.intro ?_ ?_
    · (intro W hW; (try simp only [Act.put, List.setIfInBounds_toArray, List.set_cons_zero, List.set_cons_succ]); first | (go_wp2_with fail; exact ⟨rfl, rfl, Below.refl _ _⟩))
    intro wq hbwq
    (try simp only [Act.put, List.setIfInBounds_toArray, List.set_cons_zero, List.set_cons_succ])
    (try simp only [List.drop_succ_cons, List.drop_nil])
    have hb1 := (hbwq.block b l0).trans HB.out
    clear a0 a1 a2 a3 a4 a5 a6 af
    obtain ⟨a0, a1, a2, a3, a4, a5, a6, af⟩ := row7r (show wq.heap[b]? = some (.cells #[.slice A L.length c, .int .i64 p, .int .i64 E, .int .i64 m, .int .i64 f.code, .int .i64 f.at', .string f.path] 56 (0, 0)) from hb1)
    have l1 := row_lt hb1
    obtain ⟨g, x, rfl, hx, hlc, lg, d0, d1, d2, d3⟩ := sign_row (p := p) (HRow.out.below hbwq) (by omega)
    have HK := Lib.hid (show kindAt L p = x.kind by unfold kindAt; rw [hx])
    clear hx hb1
    go_wp2_with fail
    refine wp_region_det 11 (by kernel_rfl) (by kernel_rfl) (by decide) ?_
    apply Exists.intro
    refine And.intro ?_ ?_
    · (intro W hW; (try simp only [Act.put, List.setIfInBounds_toArray, List.set_cons_zero, List.set_cons_succ]); first | (go_wp2_with fail; exact ⟨rfl, rfl, Below.refl _ _⟩))
    apply Exists.intro
    refine And.intro ?_ ?_
    · (intro W hW; (try simp only [Act.put, List.setIfInBounds_toArray, List.set_cons_zero, List.set_cons_succ]); first | (go_wp2_with fail; exact ⟨rfl, rfl, Below.refl _ _⟩))
    apply Exists.intro
    refine And.intro ?_ ?_
    · (intro W hW; (try simp only [Act.put, List.setIfInBounds_toArray, List.set_cons_zero, List.set_cons_succ]); first | (go_wp2_with fail; exact ⟨rfl, rfl, Below.refl _ _⟩))
    apply Exists.intro
    refine And.intro ?_ ?_
    · (intro W hW; (try simp only [Act.put, List.setIfInBounds_toArray, List.set_cons_zero, List.set_cons_succ]); first | (obtain ⟨hcW, hfW⟩ := bcell hW; have hsW := hW.size; (try simp at hsW); (try have hsW0 := lt_of_succ_le hsW); (try (have hsW1 := lt_pred hsW; (try (have hsW2 := lt_pred hsW1)))); go_wp2_with fail; exact ⟨rfl, rfl, Below.refl _ _⟩))
    apply Exists.intro
    refine And.intro ?_ ?_
    · (intro W hW; (try simp only [Act.put, List.setIfInBounds_toArray, List.set_cons_zero, List.set_cons_succ]); first | (go_wp2_with fail; exact ⟨rfl, rfl, Below.refl _ _⟩))
    apply Exists.intro
    refine And.intro ?_ ?_
    · (intro W hW; (try simp only [Act.put, List.setIfInBounds_toArray, List.set_cons_zero, List.set_cons_succ]); first | (go_wp2_with fail; exact ⟨rfl, rfl, Below.refl _ _⟩))
    apply Exists.intro
    refine And.intro ?_ ?_
    · (intro W hW; (try simp only [Act.put, List.setIfInBounds_toArray, List.set_cons_zero, List.set_cons_succ]); first | (go_wp2_with fail; exact ⟨rfl, rfl, Below.refl _ _⟩))
    apply Exists.intro
    refine And.intro ?_ ?_
    · (intro W hW; (try simp only [Act.put, List.setIfInBounds_toArray, List.set_cons_zero, List.set_cons_succ]); first | (obtain ⟨hcW, hfW⟩ := bcell hW; have hsW := hW.size; (try simp at hsW); (try have hsW0 := lt_of_succ_le hsW); (try (have hsW1 := lt_pred hsW; (try (have hsW2 := lt_pred hsW1)))); go_wp2_with fail; exact ⟨rfl, rfl, Below.refl _ _⟩))
    apply Exists.intro
    refine And.intro ?_ ?_
    · (intro W hW; (try simp only [Act.put, List.setIfInBounds_toArray, List.set_cons_zero, List.set_cons_succ]); first | (go_wp2_with fail; exact ⟨rfl, rfl, Below.refl _ _⟩))
    apply Exists.intro
    refine And.intro ?_ ?_
    · (intro W hW; (try simp only [Act.put, List.setIfInBounds_toArray, List.set_cons_zero, List.set_cons_succ]); first | (go_wp2_with fail; exact ⟨rfl, rfl, Below.refl _ _⟩))
    apply Exists.intro
    refine And.intro ?_ ?_
    · (intro W hW; (try simp only [Act.put, List.setIfInBounds_toArray, List.set_cons_zero, List.set_cons_succ]); first | (obtain ⟨hcW, hfW⟩ := bcell hW; have hsW := hW.size; (try simp at hsW); (try have hsW0 := lt_of_succ_le hsW); (try (have hsW1 := lt_pred hsW; (try (have hsW2 := lt_pred hsW1)))); go_wp2_with fail; exact ⟨rfl, rfl, Below.refl _ _⟩))
    intro wr hbwr
    (try simp only [Act.put, List.setIfInBounds_toArray, List.set_cons_zero, List.set_cons_succ])
    (try simp only [List.drop_succ_cons, List.drop_zero])
    go_wp2_with fail
    exact bodyPost_ret (v := .int .i64 x.kind) (by simp only [results, Tryz.results67]; go_simp) rfl ⟨by rw [HK.out], bel⟩
  · have HK := Lib.hid (show kindAt L p = 0 by unfold kindAt; rw [List.getElem?_eq_none (by omega)])
    clear hrow hne
    go_enter Tryz.func67, Tryz.ntmps67
    go_wp2_with fail
    refine wp_region_det 10 (by kernel_rfl) (by kernel_rfl) (by decide) ?_
    apply Exists.intro
    refine And.intro ?_ ?_
    · (intro W hW; (try simp only [Act.put, List.setIfInBounds_toArray, List.set_cons_zero, List.set_cons_succ]); first | (go_wp2_with fail; exact ⟨rfl, rfl, Below.refl _ _⟩))
    apply Exists.intro
    refine And.intro ?_ ?_
    · (intro W hW; (try simp only [Act.put, List.setIfInBounds_toArray, List.set_cons_zero, List.set_cons_succ]); first | (go_wp2_with fail; exact ⟨rfl, rfl, Below.refl _ _⟩))
    apply Exists.intro
    refine And.intro ?_ ?_
    · (intro W hW; (try simp only [Act.put, List.setIfInBounds_toArray, List.set_cons_zero, List.set_cons_succ]); first | (go_wp2_with fail; exact ⟨rfl, rfl, Below.refl _ _⟩))
    apply Exists.intro
    refine And.intro ?_ ?_
    · (intro W hW; (try simp only [Act.put, List.setIfInBounds_toArray, List.set_cons_zero, List.set_cons_succ]); first | (obtain ⟨hcW, hfW⟩ := bcell hW; have hsW := hW.size; (try simp at hsW); (try have hsW0 := lt_of_succ_le hsW); (try (have hsW1 := lt_pred hsW; (try (have hsW2 := lt_pred hsW1)))); go_wp2_with fail; exact ⟨rfl, rfl, Below.refl _ _⟩))
    apply Exists.intro
    refine And.intro ?_ ?_
    · (intro W hW; (try simp only [Act.put, List.setIfInBounds_toArray, List.set_cons_zero, List.set_cons_succ]); first | (go_wp2_with fail; exact ⟨rfl, rfl, Below.refl _ _⟩))
    apply Exists.intro
    refine And.intro ?_ ?_
    · (intro W hW; (try simp only [Act.put, List.setIfInBounds_toArray, List.set_cons_zero, List.set_cons_succ]); first | (go_wp2_with fail; exact ⟨rfl, rfl, Below.refl _ _⟩))
    apply Exists.intro
    refine And.intro ?_ ?_
    · (intro W hW; (try simp only [Act.put, List.setIfInBounds_toArray, List.set_cons_zero, List.set_cons_succ]); first | (go_wp2_with fail; exact ⟨rfl, rfl, Below.refl _ _⟩))
    apply Exists.intro
    refine And.intro ?_ ?_
    · (intro W hW; (try simp only [Act.put, List.setIfInBounds_toArray, List.set_cons_zero, List.set_cons_succ]); first | (obtain ⟨hcW, hfW⟩ := bcell hW; have hsW := hW.size; (try simp at hsW); (try have hsW0 := lt_of_succ_le hsW); (try (have hsW1 := lt_pred hsW; (try (have hsW2 := lt_pred hsW1)))); go_wp2_with fail; exact ⟨rfl, rfl, Below.refl _ _⟩))
    apply Exists.intro
    refine And.intro ?_ ?_
    · (intro W hW; (try simp only [Act.put, List.setIfInBounds_toArray, List.set_cons_zero, List.set_cons_succ]); first | (go_wp2_with fail; exact ⟨rfl, rfl, Below.refl _ _⟩))
    apply Exists.intro
    refine And.intro ?_ ?_
    · (intro W hW; (try simp only [Act.put, List.setIfInBounds_toArray, List.set_cons_zero, List.set_cons_succ]); first | (go_wp2_with fail; exact ⟨rfl, rfl, Below.refl _ _⟩))
    intro wq hbwq
    (try simp only [Act.put, List.setIfInBounds_toArray, List.set_cons_zero, List.set_cons_succ])
    (try simp only [List.drop_succ_cons, List.drop_nil])
    go_wp2_with fail
    exact bodyPost_ret (v := .int .i64 0) (by simp only [results, Tryz.results67]; go_simp) rfl ⟨by rw [HK.out], bel⟩
theorem RdAt.poke {L : List SignD} {E : Int} {b p m p' m' : Nat} {f f' : Flt} {w w' : World} (h : RdAt L E b p m f w) (hF : Aside (fun q => q = b) w w') (hset : ∀ A c, w.heap[b]? = some (.cells (rdC A L.length c p E m f) 56 (0, 0)) → w'.heap[b]? = some (.cells (rdC A L.length c p' E m' f') 56 (0, 0))) : RdAt L E b p' m' f' w' := by
  obtain ⟨A, c, h1, h2, h3⟩ := h
  exact ⟨A, c, hset A c h1, h2.carry (fun q hq => hF.block q (World.ownsRow.lt h2 q hq).2 (fun e => absurd (h3 q hq) (by omega))), h3⟩
theorem RdAt.past {L : List SignD} {E : Int} {b p m : Nat} {f : Flt} {w w' : World} {S : Nat → Prop} (h : RdAt L E b p m f w) (hF : Aside S w w') (hS : ∀ q, S q → b < q) : RdAt L E b p m f w' := by
  obtain ⟨A, c, h1, h2, h3⟩ := h
  exact ⟨A, c, (hF.block b (row_lt h1) (fun h => absurd (hS b h) (Nat.lt_irrefl _))).trans h1, h2.carry (fun q hq => hF.block q (World.ownsRow.lt h2 q hq).2 (fun hs => by have := hS q hs; have := h3 q hq; omega)), h3⟩
/-- Storing the place. -/
theorem set7_1 {w : World} {b : Nat} {a0 a1 a2 a3 a4 a5 a6 u : Value} {e : TypeId} (h : w.heap[b]? = some (.cells #[a0, a1, a2, a3, a4, a5, a6] e (0, 0))) : (w.setCell ⟨b, 1, none⟩ u).heap[b]? = some (.cells #[a0, u, a2, a3, a4, a5, a6] e (0, 0)) := heap_setCell_same w b 1 _ _ u h
theorem set7_4 {w : World} {b : Nat} {a0 a1 a2 a3 a4 a5 a6 u : Value} {e : TypeId} (h : w.heap[b]? = some (.cells #[a0, a1, a2, a3, a4, a5, a6] e (0, 0))) : (w.setCell ⟨b, 4, none⟩ u).heap[b]? = some (.cells #[a0, a1, a2, a3, u, a5, a6] e (0, 0)) := heap_setCell_same w b 4 _ _ u h
theorem set7_5 {w : World} {b : Nat} {a0 a1 a2 a3 a4 a5 a6 u : Value} {e : TypeId} (h : w.heap[b]? = some (.cells #[a0, a1, a2, a3, a4, a5, a6] e (0, 0))) : (w.setCell ⟨b, 5, none⟩ u).heap[b]? = some (.cells #[a0, a1, a2, a3, a4, u, a6] e (0, 0)) := heap_setCell_same w b 5 _ _ u h
theorem set7_6 {w : World} {b : Nat} {a0 a1 a2 a3 a4 a5 a6 u : Value} {e : TypeId} (h : w.heap[b]? = some (.cells #[a0, a1, a2, a3, a4, a5, a6] e (0, 0))) : (w.setCell ⟨b, 6, none⟩ u).heap[b]? = some (.cells #[a0, a1, a2, a3, a4, a5, u] e (0, 0)) := heap_setCell_same w b 6 _ _ u h
set_option maxHeartbeats 4000000 in
set_option maxRecDepth 20000 in
theorem c_rd_skip_no (L : List SignD) (E k : Int) (b p m : Nat) (f : Flt) (w : World) (hp : p ≤ 1048577) (h : RdAt L E b p m f w) (hn : f.code ≠ 0 ∨ kindAt L p ≠ k) :
    Calls Tryz.prog 105 #[.pointer (some ⟨b, 0, none⟩), .int .i64 k] w fun e w' => e = .returned (.bool false) ∧ Below w.heap.size w w' := by
  have HRd := Lib.hid h
  obtain ⟨A, c, hbox, hrow, hne⟩ := h
  unfold rdC at hbox
  obtain ⟨a0, a1, a2, a3, a4, a5, a6, af⟩ := row7r hbox
  have l0 := row_lt hbox
  obtain ⟨z, hz⟩ : ∃ z, z = f.code := ⟨_, rfl⟩
  rw [← hz] at a4 hn
  clear hbox hrow hne hz
  by_cases hc : z = 0
  · have hk : kindAt L p ≠ k := hn.resolve_left (fun e => e hc)
    obtain rfl := hc
    obtain ⟨t, ht⟩ : ∃ t, t = kindAt L p := ⟨_, rfl⟩
    rw [← ht] at hk
    have HT := Lib.hid ht
    have d1 : (t != k) = true := bne_iff_ne.2 hk
    have d2 : (t == k) = false := beq_eq_false_iff_ne.2 hk
    clear ht hk hn
    go_enter Tryz.func105, Tryz.ntmps105
    go_wp2_with (go_at_call 67; refine (c_rd_kind L E b p m f _ hp HRd.out).mono ?_; rintro e w1 ⟨rfl, hb1⟩; rw [← HT.out])
    go_ret
    exact ⟨rfl, bel⟩
  · have d1 : (z != 0) = true := bne_iff_ne.2 hc
    have d2 : (z == 0) = false := beq_eq_false_iff_ne.2 hc
    clear hc hn
    go_enter Tryz.func105, Tryz.ntmps105
    go_wp2_with fail
    go_ret
    exact ⟨rfl, bel⟩
set_option maxHeartbeats 4000000 in
set_option maxRecDepth 20000 in
theorem c_rd_skip_yes (L : List SignD) (E k : Int) (b p m : Nat) (f : Flt) (w : World) (hp : p ≤ 1048577) (h : RdAt L E b p m f w) (hf : f.code = 0) (hk : kindAt L p = k) :
    Calls Tryz.prog 105 #[.pointer (some ⟨b, 0, none⟩), .int .i64 k] w fun e w' => e = .returned (.bool true) ∧ RdAt L E b (p + 1) m f w' ∧ Aside (fun q => q = b) w w' := by
  have HRd := Lib.hid h
  obtain ⟨A, c, hbox, hrow, hne⟩ := h
  have HBx := Lib.hid hbox
  unfold rdC at hbox
  obtain ⟨a0, a1, a2, a3, a4, a5, a6, af⟩ := row7r hbox
  have l0 := row_lt hbox
  rw [hf] at a4
  have HK := Lib.hid hk
  clear hbox hrow hne hf hk
  go_enter Tryz.func105, Tryz.ntmps105
  go_wp2_with (go_at_call 67; refine (c_rd_kind L E b p m f _ hp HRd.out).mono ?_; rintro e w1 ⟨rfl, hb1⟩; rw [HK.out]; have hx1 := (hb1.block b l0).trans HBx.out; have HX1 := Lib.hid hx1; have HB1 := Lib.hid hb1; clear a0 a1 a2 a3 a4 a5 a6 af; obtain ⟨a0, a1, a2, a3, a4, a5, a6, af⟩ := row7r (show w1.heap[b]? = some (.cells #[.slice A L.length c, .int .i64 p, .int .i64 E, .int .i64 m, .int .i64 f.code, .int .i64 f.at', .string f.path] 56 (0, 0)) from hx1); have l1 := row_lt hx1; clear hx1)
  have hF : Aside (fun q => q = b) w1 (w1.setCell ⟨b, 1, none⟩ (.int .i64 ((p : Int) + 1))) := aside_set rfl (Aside.refl _ _)
  have hR := RdAt.poke (p' := p + 1) (m' := m) (f' := f) (HRd.out.below HB1.out) hF (fun A c h => by unfold rdC at h ⊢; exact set7_1 h)
  have HF := Lib.hid ((Aside.of_below (S := fun q => q = b) HB1.out).trans hF)
  have HR := Lib.hid hR
  clear hF hR
  go_ret
  exact ⟨rfl, HR.out, HF.out⟩
set_option maxHeartbeats 4000000 in
set_option maxRecDepth 20000 in
theorem c_rd_fail_old (L : List SignD) (E k : Int) (b p m : Nat) (f : Flt) (w : World) (h : RdAt L E b p m f w) (hf : f.code ≠ 0) :
    Calls Tryz.prog 35 #[.pointer (some ⟨b, 0, none⟩), .int .i64 k] w fun e w' => e = .returned (.tuple #[]) ∧ Below w.heap.size w w' := by
  obtain ⟨A, c, hbox, hrow, hne⟩ := h
  unfold rdC at hbox
  obtain ⟨a0, a1, a2, a3, a4, a5, a6, af⟩ := row7r hbox
  have l0 := row_lt hbox
  obtain ⟨z, hz⟩ : ∃ z, z = f.code := ⟨_, rfl⟩
  rw [← hz] at a4 hf
  have d1 : (z != 0) = true := bne_iff_ne.2 hf
  have d2 : (z == 0) = false := beq_eq_false_iff_ne.2 hf
  clear hbox hrow hne hz hf
  go_enter Tryz.func35, Tryz.ntmps35
  go_wp2_with fail
  exact bodyPost_ret (v := .tuple #[]) (by simp only [results, Tryz.results35]; go_simp) rfl ⟨rfl, bel⟩
set_option maxHeartbeats 4000000 in
set_option maxRecDepth 20000 in
theorem c_rd_fail_new (L : List SignD) (E k : Int) (b p m : Nat) (f : Flt) (w : World) (hp : p ≤ 1048577) (h : RdAt L E b p m f w) (hf : f.code = 0) :
    Calls Tryz.prog 35 #[.pointer (some ⟨b, 0, none⟩), .int .i64 k] w fun e w' => e = .returned (.tuple #[]) ∧ RdAt L E b p m (badF L E k p) w' ∧ Aside (fun q => q = b) w w' := by
  have HRd := Lib.hid h
  obtain ⟨A, c, hbox, hrow, hne⟩ := h
  have HBx := Lib.hid hbox
  unfold rdC at hbox
  obtain ⟨a0, a1, a2, a3, a4, a5, a6, af⟩ := row7r hbox
  have HB0 := Lib.hid hbox
  have l0 := row_lt hbox
  rw [hf] at a4
  clear hbox hrow hne hf
  obtain ⟨wf, hwf⟩ : ∃ wf, wf = ((w.setCell ⟨b, 4, none⟩ (.int .i64 k)).setCell ⟨b, 5, none⟩ (.int .i64 E)).setCell ⟨b, 6, none⟩ (.string ⟨#[]⟩) := ⟨_, rfl⟩
  have hF : Aside (fun q => q = b) w wf := by rw [hwf]; exact aside_set rfl (aside_set rfl (aside_set rfl (Aside.refl _ _)))
  have hx : wf.heap[b]? = some (.cells #[.slice A L.length c, .int .i64 p, .int .i64 E, .int .i64 m, .int .i64 k, .int .i64 E, .string ⟨#[]⟩] 56 (0, 0)) := by rw [hwf]; exact set7_6 (set7_5 (set7_4 HB0.out))
  have hR : RdAt L E b p m ⟨k, E, ⟨#[]⟩⟩ wf := RdAt.poke HRd.out hF (fun A' c' h' => by rw [hwf]; unfold rdC at h' ⊢; exact set7_6 (set7_5 (set7_4 h')))
  have HF := Lib.hid hF
  have HX := Lib.hid hx
  have HR := Lib.hid hR
  have HW := Lib.hid hwf
  clear hF hx hR hwf
  by_cases hlt : (p : Int) < L.length
  · have hz0 : (0 : Int) ≤ p := by omega
    go_enter Tryz.func35, Tryz.ntmps35
    go_wp2_with fail
    rw [← HW.out]
    clear a0 a1 a2 a3 a4 a5 a6 af
    obtain ⟨a0, a1, a2, a3, a4, a5, a6, af⟩ := row7r HX.out
    have l1 := row_lt HX.out
    refine wp_region_det 10 (by kernel_rfl) (by kernel_rfl) (by decide) ?_
    apply Exists.intro
    refine And.intro ?_ ?_
    · (intro W hW; (try simp only [Act.put, List.setIfInBounds_toArray, List.set_cons_zero, List.set_cons_succ]); first | (go_wp2_with fail; exact ⟨rfl, rfl, Below.refl _ _⟩))
    apply Exists.intro
    refine And.intro ?_ ?_
    · (intro W hW; (try simp only [Act.put, List.setIfInBounds_toArray, List.set_cons_zero, List.set_cons_succ]); first | (go_wp2_with fail; exact ⟨rfl, rfl, Below.refl _ _⟩))
    apply Exists.intro
    refine And.intro ?_ ?_
    · (intro W hW; (try simp only [Act.put, List.setIfInBounds_toArray, List.set_cons_zero, List.set_cons_succ]); first | (go_wp2_with fail; exact ⟨rfl, rfl, Below.refl _ _⟩))
    apply Exists.intro
    refine And.intro ?_ ?_
    · (intro W hW; (try simp only [Act.put, List.setIfInBounds_toArray, List.set_cons_zero, List.set_cons_succ]); first | (obtain ⟨hcW, hfW⟩ := bcell hW; have hsW := hW.size; (try simp at hsW); (try have hsW0 := lt_of_succ_le hsW); (try (have hsW1 := lt_pred hsW; (try (have hsW2 := lt_pred hsW1)))); go_wp2_with fail; exact ⟨rfl, rfl, Below.refl _ _⟩))
    apply Exists.intro
    refine And.intro ?_ ?_
    · (intro W hW; (try simp only [Act.put, List.setIfInBounds_toArray, List.set_cons_zero, List.set_cons_succ]); first | (go_wp2_with fail; exact ⟨rfl, rfl, Below.refl _ _⟩))
    apply Exists.intro
    refine And.intro ?_ ?_
    · (intro W hW; (try simp only [Act.put, List.setIfInBounds_toArray, List.set_cons_zero, List.set_cons_succ]); first | (go_wp2_with fail; exact ⟨rfl, rfl, Below.refl _ _⟩))
    apply Exists.intro
    refine And.intro ?_ ?_
    · (intro W hW; (try simp only [Act.put, List.setIfInBounds_toArray, List.set_cons_zero, List.set_cons_succ]); first | (go_wp2_with fail; exact ⟨rfl, rfl, Below.refl _ _⟩))
    apply Exists.intro
    refine And.intro ?_ ?_
    · (intro W hW; (try simp only [Act.put, List.setIfInBounds_toArray, List.set_cons_zero, List.set_cons_succ]); first | (obtain ⟨hcW, hfW⟩ := bcell hW; have hsW := hW.size; (try simp at hsW); (try have hsW0 := lt_of_succ_le hsW); (try (have hsW1 := lt_pred hsW; (try (have hsW2 := lt_pred hsW1)))); go_wp2_with fail; exact ⟨rfl, rfl, Below.refl _ _⟩))
    apply Exists.intro
    refine And.intro ?_ ?_
    · (intro W hW; (try simp only [Act.put, List.setIfInBounds_toArray, List.set_cons_zero, List.set_cons_succ]); first | (go_wp2_with fail; exact ⟨rfl, rfl, Below.refl _ _⟩))
    apply Exists.intro
    refine And.intro ?_ ?_
    · (intro W hW; (try simp only [Act.put, List.setIfInBounds_toArray, List.set_cons_zero, List.set_cons_succ]); first | (go_wp2_with fail; exact ⟨rfl, rfl, Below.refl _ _⟩))
    intro wq hbwq
    (try simp only [Act.put, List.setIfInBounds_toArray, List.set_cons_zero, List.set_cons_succ])
    (try simp only [List.drop_succ_cons, List.drop_nil])
    have hb1 := (hbwq.block b l1).trans HX.out
    have HBq := Lib.hid hbwq
    clear a0 a1 a2 a3 a4 a5 a6 af
    obtain ⟨a0, a1, a2, a3, a4, a5, a6, af⟩ := row7r hb1
    have l2 := row_lt hb1
    have HRq := Lib.hid (HR.out.below hbwq)
    obtain ⟨A2, c2, hq1, hq2, hq3⟩ := HRq.out
    obtain ⟨rfl, rfl⟩ : A2 = A ∧ c2 = c := by
      have := hb1.symm.trans hq1
      unfold rdC at this
      simp at this
      exact ⟨this.1.symm, this.2.symm⟩
    obtain ⟨g, x, rfl, hx, hlc, lg, d0, d1, d2, d3⟩ := sign_row (p := p) hq2 (by omega)
    have HP := Lib.hid (show badF L E k p = ⟨k, x.at', ⟨#[]⟩⟩ by unfold badF placeAt; rw [hx])
    clear hx hb1 hq1 hq2 hq3
    go_wp2_with fail
    go_region_law (fail)
    all_goals
      (try go_wp2_with fail)
      have hF2 : Aside (fun q => q = b) wq (wq.setCell ⟨b, 5, none⟩ (.int .i64 x.at')) := aside_set rfl (Aside.refl _ _)
      have hR2 := RdAt.poke (p' := p) (m' := m) (f' := ⟨k, x.at', ⟨#[]⟩⟩) HRq.out hF2 (fun A' c' h' => by unfold rdC at h' ⊢; exact set7_5 h')
      have hD : Below (wq.setCell ⟨b, 5, none⟩ (.int .i64 x.at')).heap.size (wq.setCell ⟨b, 5, none⟩ (.int .i64 x.at')) (wq.setCell ⟨b, 5, none⟩ (.int .i64 x.at')).drew := bel
      exact bodyPost_end (v := .tuple #[]) (by simp only [results, Tryz.results35]; go_simp) rfl ⟨rfl, by rw [HP.out]; exact hR2.below hD, HF.out.trans ((Aside.of_below HBq.out).trans (hF2.trans (Aside.of_below hD)))⟩
  · have HP := Lib.hid (show badF L E k p = ⟨k, E, ⟨#[]⟩⟩ by unfold badF placeAt; rw [List.getElem?_eq_none (by omega)])
    go_enter Tryz.func35, Tryz.ntmps35
    go_wp2_with fail
    rw [← HW.out]
    clear a0 a1 a2 a3 a4 a5 a6 af
    obtain ⟨a0, a1, a2, a3, a4, a5, a6, af⟩ := row7r HX.out
    have l1 := row_lt HX.out
    refine wp_region_det 10 (by kernel_rfl) (by kernel_rfl) (by decide) ?_
    apply Exists.intro
    refine And.intro ?_ ?_
    · (intro W hW; (try simp only [Act.put, List.setIfInBounds_toArray, List.set_cons_zero, List.set_cons_succ]); first | (go_wp2_with fail; exact ⟨rfl, rfl, Below.refl _ _⟩))
    apply Exists.intro
    refine And.intro ?_ ?_
    · (intro W hW; (try simp only [Act.put, List.setIfInBounds_toArray, List.set_cons_zero, List.set_cons_succ]); first | (go_wp2_with fail; exact ⟨rfl, rfl, Below.refl _ _⟩))
    apply Exists.intro
    refine And.intro ?_ ?_
    · (intro W hW; (try simp only [Act.put, List.setIfInBounds_toArray, List.set_cons_zero, List.set_cons_succ]); first | (go_wp2_with fail; exact ⟨rfl, rfl, Below.refl _ _⟩))
    apply Exists.intro
    refine And.intro ?_ ?_
    · (intro W hW; (try simp only [Act.put, List.setIfInBounds_toArray, List.set_cons_zero, List.set_cons_succ]); first | (obtain ⟨hcW, hfW⟩ := bcell hW; have hsW := hW.size; (try simp at hsW); (try have hsW0 := lt_of_succ_le hsW); (try (have hsW1 := lt_pred hsW; (try (have hsW2 := lt_pred hsW1)))); go_wp2_with fail; exact ⟨rfl, rfl, Below.refl _ _⟩))
    apply Exists.intro
    refine And.intro ?_ ?_
    · (intro W hW; (try simp only [Act.put, List.setIfInBounds_toArray, List.set_cons_zero, List.set_cons_succ]); first | (go_wp2_with fail; exact ⟨rfl, rfl, Below.refl _ _⟩))
    apply Exists.intro
    refine And.intro ?_ ?_
    · (intro W hW; (try simp only [Act.put, List.setIfInBounds_toArray, List.set_cons_zero, List.set_cons_succ]); first | (go_wp2_with fail; exact ⟨rfl, rfl, Below.refl _ _⟩))
    apply Exists.intro
    refine And.intro ?_ ?_
    · (intro W hW; (try simp only [Act.put, List.setIfInBounds_toArray, List.set_cons_zero, List.set_cons_succ]); first | (go_wp2_with fail; exact ⟨rfl, rfl, Below.refl _ _⟩))
    apply Exists.intro
    refine And.intro ?_ ?_
    · (intro W hW; (try simp only [Act.put, List.setIfInBounds_toArray, List.set_cons_zero, List.set_cons_succ]); first | (obtain ⟨hcW, hfW⟩ := bcell hW; have hsW := hW.size; (try simp at hsW); (try have hsW0 := lt_of_succ_le hsW); (try (have hsW1 := lt_pred hsW; (try (have hsW2 := lt_pred hsW1)))); go_wp2_with fail; exact ⟨rfl, rfl, Below.refl _ _⟩))
    apply Exists.intro
    refine And.intro ?_ ?_
    · (intro W hW; (try simp only [Act.put, List.setIfInBounds_toArray, List.set_cons_zero, List.set_cons_succ]); first | (go_wp2_with fail; exact ⟨rfl, rfl, Below.refl _ _⟩))
    apply Exists.intro
    refine And.intro ?_ ?_
    · (intro W hW; (try simp only [Act.put, List.setIfInBounds_toArray, List.set_cons_zero, List.set_cons_succ]); first | (go_wp2_with fail; exact ⟨rfl, rfl, Below.refl _ _⟩))
    intro wq hbwq
    (try simp only [Act.put, List.setIfInBounds_toArray, List.set_cons_zero, List.set_cons_succ])
    (try simp only [List.drop_succ_cons, List.drop_nil])
    have HRq := Lib.hid (HR.out.below hbwq)
    have HBq := Lib.hid hbwq
    go_wp2_with fail
    exact bodyPost_end (v := .tuple #[]) (by simp only [results, Tryz.results35]; go_simp) rfl ⟨rfl, by rw [HP.out]; exact HRq.out, HF.out.trans (Aside.of_below HBq.out)⟩
end Go.Proofs.YtffelpdefjkeaaaGreatDoor
namespace Go.Proofs.YtffelpdefjkeaaaGreatDoor
open Go.RowKit Go.Lib
theorem aside_below {S : Nat → Prop} {a b c : World} (h : Aside S a b) (hb : Below b.heap.size b c) : Aside S a c := h.trans (Aside.of_below hb)
set_option maxHeartbeats 4000000 in
set_option maxRecDepth 20000 in
theorem c_rd_key_kind (L : List SignD) (E : Int) (b p m : Nat) (f : Flt) (v : Value) (w : World) (hp : p ≤ 1048577) (h : RdAt L E b p m f w) (hf : f.code = 0) (hk : kindAt L p ≠ 7) :
    Calls Tryz.prog 106 #[.pointer (some ⟨b, 0, none⟩), v] w fun e w' => e = .returned (.string ⟨#[]⟩) ∧ RdAt L E b p m (badF L E 4 p) w' ∧ Aside (fun q => q = b) w w' := by
  have HRd := Lib.hid h
  obtain ⟨t, ht⟩ : ∃ t, t = kindAt L p := ⟨_, rfl⟩
  rw [← ht] at hk
  have HT := Lib.hid ht
  have HFl := Lib.hid hf
  have d1 : (t != 7) = true := bne_iff_ne.2 hk
  have d2 : (t == 7) = false := beq_eq_false_iff_ne.2 hk
  clear ht hk h hf
  go_enter Tryz.func106, Tryz.ntmps106
  go_wp2_with fail
  refine (c_rd_kind L E b p m f _ hp HRd.out).mono ?_
  rintro e w1 ⟨rfl, hb1⟩
  rw [← HT.out]
  have HR1 := Lib.hid (HRd.out.below hb1)
  have HB1 := Lib.hid hb1
  clear hb1
  go_wp2_with fail
  refine (c_rd_fail_new L E 4 b p m f _ hp HR1.out HFl.out).mono ?_
  rintro e w2 ⟨rfl, hR2, hA2⟩
  have HR2 := Lib.hid hR2
  have HA2 := Lib.hid ((Aside.of_below HB1.out).trans hA2)
  clear hR2 hA2
  go_wp2_with fail
  go_ret
  exact ⟨rfl, HR2.out, HA2.out⟩
/-- The fault of a key that is there. -/
def keyF (L : List SignD) (E : Int) (ks : List ByteArray) (p : Nat) (x : SignD) (f : Flt) : Flt := if 400 < x.text.size then badF L E 8 p else if hasS ks x.text = true then badF L E 5 p else f
set_option maxHeartbeats 8000000 in
set_option maxRecDepth 20000 in
theorem c_rd_key (L : List SignD) (E : Int) (b p m lo : Nat) (f : Flt) (ks : List ByteArray) (v : Value) (x : SignD) (w : World) (hp : p ≤ 1048576) (h : RdAt L E b p m f w) (hf : f.code = 0) (hx : L[p]? = some x) (hk : x.kind = 7) (hsz : x.text.size ≤ 1048576)
    (hks : ∀ w', Aside (fun q => q = b) w w' → Sl_Str lo w'.heap.size w' ks v) :
    Calls Tryz.prog 106 #[.pointer (some ⟨b, 0, none⟩), v] w fun e w' => e = .returned (.string x.text) ∧ RdAt L E b (p + 1) m (keyF L E ks p x f) w' ∧ Aside (fun q => q = b) w w' := by
  have HRd := Lib.hid h
  have HK := Lib.hid (show kindAt L p = 7 by unfold kindAt; rw [hx]; exact hk)
  have HFl := Lib.hid hf
  have HX := Lib.hid hx
  have hpl : p < L.length := (List.getElem?_eq_some_iff.1 hx).1
  obtain ⟨t, ht⟩ : ∃ t, t = x.text := ⟨_, rfl⟩
  have HXt := Lib.hid ht
  rw [← ht] at hsz
  have hz0 : (0 : Int) ≤ p := by omega
  have hz1 : (p : Int) < L.length := by omega
  have HKs := Lib.hid hks
  clear h hf hx hk ht hks
  go_enter Tryz.func106, Tryz.ntmps106
  go_wp2_with fail
  refine (c_rd_kind L E b p m f _ (by omega) HRd.out).mono ?_
  rintro e w1 ⟨rfl, hb1⟩
  rw [HK.out]
  have HR1 := Lib.hid (HRd.out.below hb1)
  have HA1 := Lib.hid (Aside.of_below (S := fun q => q = b) hb1)
  clear hb1
  obtain ⟨A, c, hbx, hrow, -⟩ := HR1.out
  unfold rdC at hbx
  obtain ⟨a0, a1, a2, a3, a4, a5, a6, af⟩ := row7r hbx
  have l0 := row_lt hbx
  obtain ⟨g, y, rfl, hy, hlc, lg, d0, d1, d2, d3⟩ := sign_row (p := p) hrow hpl
  obtain rfl : y = x := Option.some.inj (hy.symm.trans HX.out)
  rw [← HXt.out] at d1
  clear hbx hrow hy
  go_wp2_with fail
  refine wp_region_det 11 (by kernel_rfl) (by kernel_rfl) (by decide) ?_
  apply Exists.intro
  refine And.intro ?_ ?_
  · (intro W hW; (try simp only [Act.put, List.setIfInBounds_toArray, List.set_cons_zero, List.set_cons_succ]); first | (go_wp2_with fail; exact ⟨rfl, rfl, Below.refl _ _⟩))
  apply Exists.intro
  refine And.intro ?_ ?_
  · (intro W hW; (try simp only [Act.put, List.setIfInBounds_toArray, List.set_cons_zero, List.set_cons_succ]); first | (go_wp2_with fail; exact ⟨rfl, rfl, Below.refl _ _⟩))
  apply Exists.intro
  refine And.intro ?_ ?_
  · (intro W hW; (try simp only [Act.put, List.setIfInBounds_toArray, List.set_cons_zero, List.set_cons_succ]); first | (go_wp2_with fail; exact ⟨rfl, rfl, Below.refl _ _⟩))
  apply Exists.intro
  refine And.intro ?_ ?_
  · (intro W hW; (try simp only [Act.put, List.setIfInBounds_toArray, List.set_cons_zero, List.set_cons_succ]); first | (obtain ⟨hcW, hfW⟩ := bcell hW; have hsW := hW.size; (try simp at hsW); (try have hsW0 := lt_of_succ_le hsW); (try (have hsW1 := lt_pred hsW; (try (have hsW2 := lt_pred hsW1)))); go_wp2_with fail; exact ⟨rfl, rfl, Below.refl _ _⟩))
  apply Exists.intro
  refine And.intro ?_ ?_
  · (intro W hW; (try simp only [Act.put, List.setIfInBounds_toArray, List.set_cons_zero, List.set_cons_succ]); first | (go_wp2_with fail; exact ⟨rfl, rfl, Below.refl _ _⟩))
  apply Exists.intro
  refine And.intro ?_ ?_
  · (intro W hW; (try simp only [Act.put, List.setIfInBounds_toArray, List.set_cons_zero, List.set_cons_succ]); first | (go_wp2_with fail; exact ⟨rfl, rfl, Below.refl _ _⟩))
  apply Exists.intro
  refine And.intro ?_ ?_
  · (intro W hW; (try simp only [Act.put, List.setIfInBounds_toArray, List.set_cons_zero, List.set_cons_succ]); first | (go_wp2_with fail; exact ⟨rfl, rfl, Below.refl _ _⟩))
  apply Exists.intro
  refine And.intro ?_ ?_
  · (intro W hW; (try simp only [Act.put, List.setIfInBounds_toArray, List.set_cons_zero, List.set_cons_succ]); first | (obtain ⟨hcW, hfW⟩ := bcell hW; have hsW := hW.size; (try simp at hsW); (try have hsW0 := lt_of_succ_le hsW); (try (have hsW1 := lt_pred hsW; (try (have hsW2 := lt_pred hsW1)))); go_wp2_with fail; exact ⟨rfl, rfl, Below.refl _ _⟩))
  apply Exists.intro
  refine And.intro ?_ ?_
  · (intro W hW; (try simp only [Act.put, List.setIfInBounds_toArray, List.set_cons_zero, List.set_cons_succ]); first | (go_wp2_with fail; exact ⟨rfl, rfl, Below.refl _ _⟩))
  apply Exists.intro
  refine And.intro ?_ ?_
  · (intro W hW; (try simp only [Act.put, List.setIfInBounds_toArray, List.set_cons_zero, List.set_cons_succ]); first | (go_wp2_with fail; exact ⟨rfl, rfl, Below.refl _ _⟩))
  apply Exists.intro
  refine And.intro ?_ ?_
  · (intro W hW; (try simp only [Act.put, List.setIfInBounds_toArray, List.set_cons_zero, List.set_cons_succ]); first | (obtain ⟨hcW, hfW⟩ := bcell hW; have hsW := hW.size; (try simp at hsW); (try have hsW0 := lt_of_succ_le hsW); (try (have hsW1 := lt_pred hsW; (try (have hsW2 := lt_pred hsW1)))); go_wp2_with fail; exact ⟨rfl, rfl, Below.refl _ _⟩))
  intro w2 hbw2
  (try simp only [Act.put, List.setIfInBounds_toArray, List.set_cons_zero, List.set_cons_succ])
  (try simp only [List.drop_succ_cons, List.drop_zero])
  have HR2 := Lib.hid (HR1.out.below hbw2)
  have HA2 := Lib.hid (aside_below HA1.out hbw2)
  have l2 := HR2.out.lt
  clear a0 a1 a2 a3 a4 a5 a6 af d0 d1 d2 d3
  by_cases c8 : (400 : Int) < t.size
  · have HKf := Lib.hid (show keyF L E ks p y f = badF L E 8 p by unfold keyF; rw [← HXt.out, if_pos (by omega)])
    go_wp2_with fail
    refine (c_rd_fail_new L E 8 b p m f _ (by omega) HR2.out HFl.out).mono ?_
    rintro e w3 ⟨rfl, hR3, hA3⟩
    have HR3 := Lib.hid hR3
    have HA3 := Lib.hid (HA2.out.trans hA3)
    clear hR3 hA3
    go_wp2_with fail
    refine (c_Contains_Str ks t v _ lo (HKs.out _ HA3.out)).mono ?_
    rintro e w4 ⟨rfl, hb4⟩
    obtain ⟨z, hz⟩ : ∃ z, z = hasS ks t := ⟨_, rfl⟩
    rw [← hz]
    clear hz
    have HR4 := Lib.hid (HR3.out.below hb4)
    have HA4 := Lib.hid (aside_below HA3.out hb4)
    clear hb4
    cases z
    · have HRk := Lib.hid HR4.out
      have HAk := Lib.hid HA4.out
      obtain ⟨A5, c5, hx5, -, -⟩ := HRk.out
      unfold rdC at hx5
      obtain ⟨q0, q1, q2, q3, q4, q5, q6, qf⟩ := row7r hx5
      have l5 := row_lt hx5
      clear hx5
      go_wp2_with fail
      have hF5 : Aside (fun q => q = b) w4 ((w4).setCell ⟨b, 1, none⟩ (.int .i64 ((p : Int) + 1))) := aside_set rfl (Aside.refl _ _)
      have hR5 := RdAt.poke (p' := p + 1) (m' := m) (f' := badF L E 8 p) HRk.out hF5 (fun A c h => by unfold rdC at h ⊢; exact set7_1 h)
      have HF5 := Lib.hid (HAk.out.trans hF5)
      have HR5 := Lib.hid hR5
      clear hF5 hR5
      go_ret
      exact ⟨by rw [← HXt.out]; rfl, by rw [HKf.out]; exact HR5.out, HF5.out⟩
    · go_wp2_with fail
      refine (c_rd_fail_old L E 5 b p m _ _ HR4.out (by show (8 : Int) ≠ 0; decide)).mono ?_
      rintro e w6 ⟨rfl, hb6⟩
      have HRk := Lib.hid (HR4.out.below hb6)
      have HAk := Lib.hid (aside_below HA4.out hb6)
      obtain ⟨A5, c5, hx5, -, -⟩ := HRk.out
      unfold rdC at hx5
      obtain ⟨q0, q1, q2, q3, q4, q5, q6, qf⟩ := row7r hx5
      have l5 := row_lt hx5
      clear hx5
      go_wp2_with fail
      have hF5 : Aside (fun q => q = b) w6 ((w6).setCell ⟨b, 1, none⟩ (.int .i64 ((p : Int) + 1))) := aside_set rfl (Aside.refl _ _)
      have hR5 := RdAt.poke (p' := p + 1) (m' := m) (f' := badF L E 8 p) HRk.out hF5 (fun A c h => by unfold rdC at h ⊢; exact set7_1 h)
      have HF5 := Lib.hid (HAk.out.trans hF5)
      have HR5 := Lib.hid hR5
      clear hF5 hR5
      go_ret
      exact ⟨by rw [← HXt.out]; rfl, by rw [HKf.out]; exact HR5.out, HF5.out⟩
  · have d8 : decide ((400 : Int) < t.size) = false := decide_eq_false c8
    go_wp2_with fail
    refine (c_Contains_Str ks t v _ lo (HKs.out _ HA2.out)).mono ?_
    rintro e w4 ⟨rfl, hb4⟩
    have HR4 := Lib.hid (HR2.out.below hb4)
    have HA4 := Lib.hid (aside_below HA2.out hb4)
    clear hb4
    rcases hz : hasS ks t with _ | _
    · have HKf := Lib.hid (show keyF L E ks p y f = f by unfold keyF; rw [← HXt.out, if_neg (by omega), hz]; rfl)
      clear hz
      have HRk := Lib.hid HR4.out
      have HAk := Lib.hid HA4.out
      obtain ⟨A5, c5, hx5, -, -⟩ := HRk.out
      unfold rdC at hx5
      obtain ⟨q0, q1, q2, q3, q4, q5, q6, qf⟩ := row7r hx5
      have l5 := row_lt hx5
      clear hx5
      go_wp2_with fail
      have hF5 : Aside (fun q => q = b) w4 ((w4).setCell ⟨b, 1, none⟩ (.int .i64 ((p : Int) + 1))) := aside_set rfl (Aside.refl _ _)
      have hR5 := RdAt.poke (p' := p + 1) (m' := m) (f' := f) HRk.out hF5 (fun A c h => by unfold rdC at h ⊢; exact set7_1 h)
      have HF5 := Lib.hid (HAk.out.trans hF5)
      have HR5 := Lib.hid hR5
      clear hF5 hR5
      go_ret
      exact ⟨by rw [← HXt.out]; rfl, by rw [HKf.out]; exact HR5.out, HF5.out⟩
    · have HKf := Lib.hid (show keyF L E ks p y f = badF L E 5 p by unfold keyF; rw [← HXt.out, if_neg (by omega), hz]; rfl)
      clear hz
      go_wp2_with fail
      refine (c_rd_fail_new L E 5 b p m f _ (by omega) HR4.out HFl.out).mono ?_
      rintro e w6 ⟨rfl, hR6, hA6⟩
      have HRk := Lib.hid hR6
      have HAk := Lib.hid (HA4.out.trans hA6)
      obtain ⟨A5, c5, hx5, -, -⟩ := HRk.out
      unfold rdC at hx5
      obtain ⟨q0, q1, q2, q3, q4, q5, q6, qf⟩ := row7r hx5
      have l5 := row_lt hx5
      clear hx5
      go_wp2_with fail
      have hF5 : Aside (fun q => q = b) w6 ((w6).setCell ⟨b, 1, none⟩ (.int .i64 ((p : Int) + 1))) := aside_set rfl (Aside.refl _ _)
      have hR5 := RdAt.poke (p' := p + 1) (m' := m) (f' := badF L E 5 p) HRk.out hF5 (fun A c h => by unfold rdC at h ⊢; exact set7_1 h)
      have HF5 := Lib.hid (HAk.out.trans hF5)
      have HR5 := Lib.hid hR5
      clear hF5 hR5
      go_ret
      exact ⟨by rw [← HXt.out]; rfl, by rw [HKf.out]; exact HR5.out, HF5.out⟩
end Go.Proofs.YtffelpdefjkeaaaGreatDoor
namespace Go.Proofs.YtffelpdefjkeaaaGreatDoor
open Go.RowKit Go.Lib
theorem Aside.join {S S' : Nat → Prop} {a b c : World} (h : Aside S a b) (k : Aside S' b c) (hs : ∀ q, S' q → q < a.heap.size → S q) : Aside S a c :=
  ⟨k.os.trans h.os, k.tape.trans h.tape, k.output.trans h.output, Nat.le_trans h.size k.size, fun i hi hn => (k.block i (Nat.lt_of_lt_of_le hi h.size) (fun hq => hn (hs i hq hi))).trans (h.block i hi hn)⟩
/-- A leaf lies nowhere. -/
theorem own_leaf {n : Nat} {S : Nat → Prop} {w : World} {k num : Int} {f : Bool} {t : ByteArray} (hk : I64 k) (hn : I64 num) (ht : t.size ≤ 9223372036854775807) : OwnT (n + 1) S w ⟨k, f, num, t, [], []⟩ [.int .i64 k, .bool f, .int .i64 num, .string t, .slice none 0 0, .slice none 0 0] :=
  OwnT.into ⟨_, _, fun _ => False, fun _ => False, rfl, hk, hn, ht, fun _ h => h.elim, fun _ h => h.elim, ⟨none, 0, rfl, Nat.le_refl _, by omega, fun h => absurd h (by simp)⟩, ⟨none, 0, rfl, Nat.le_refl _, by omega, fun h => absurd h (by simp)⟩⟩
/-- The list at sign p, behind its opening sign. -/
def listR (L : List SignD) (E : Int) (n d p m : Nat) : Res := if kindAt L p = 4 then .good (tList []) (p + 1) m else readJ L E n (.list d []) p m
/-- The map at sign p, behind its opening sign. -/
def pairsR (L : List SignD) (E : Int) (n d p m : Nat) : Res := if kindAt L p = 2 then .good (tMap [] []) (p + 1) m else readJ L E n (.pairs d [] []) p m
def BadT (R : Nat → Nat → Flt → World → Prop) (b : Nat) (N : Nat) (f : Flt) (w : World) (e : Ending) (w' : World) : Prop :=
  ∃ (k : Int) (fl : Bool) (nu : Int) (t : ByteArray) (A4 : Option Addr) (n4 c4 : Nat) (A5 : Option Addr) (n5 c5 p' m' : Nat), e = .returned (.agg #[.int .i64 k, .bool fl, .int .i64 nu, .string t, .slice A4 n4 c4, .slice A5 n5 c5]) ∧ R p' m' f w' ∧ p' ≤ N ∧ Aside (fun q => q = b) w w'
def GoodT (R : Nat → Nat → Flt → World → Prop) (b : Nat) (nT : Nat) (t : TreeD) (q m' : Nat) (w : World) (e : Ending) (w' : World) : Prop :=
  ∃ cs, e = .returned (.agg cs.toArray) ∧ OwnT nT (fun x => w.heap.size ≤ x ∧ x < w'.heap.size) w' t cs ∧ R q m' flt0 w' ∧ Aside (fun q => q = b) w w'
/-- What a reader's call yields; R tells the reader's box b. -/
def ValE (R : Nat → Nat → Flt → World → Prop) (b N nT : Nat) (r : Res) (w : World) (e : Ending) (w' : World) : Prop := match r with
  | .bad f => BadT R b N f w e w'
  | .good t q m' => GoodT R b nT t q m' w e w'
theorem ValE.bad {R : Nat → Nat → Flt → World → Prop} {b N nT : Nat} {r : Res} {f : Flt} {w w' : World} {e : Ending} (hr : r = .bad f) (h : BadT R b N f w e w') : ValE R b N nT r w e w' := by subst hr; exact h
theorem ValE.good {R : Nat → Nat → Flt → World → Prop} {b N nT : Nat} {r : Res} {t : TreeD} {q m' : Nat} {w w' : World} {e : Ending} (hr : r = .good t q m') (h : GoodT R b nT t q m' w e w') : ValE R b N nT r w e w' := by subst hr; exact h
theorem ValE.isBad {R : Nat → Nat → Flt → World → Prop} {b N nT : Nat} {r : Res} {f : Flt} {w w' : World} {e : Ending} (hr : r = .bad f) (h : ValE R b N nT r w e w') : BadT R b N f w e w' := by subst hr; exact h
theorem ValE.isGood {R : Nat → Nat → Flt → World → Prop} {b N nT : Nat} {r : Res} {t : TreeD} {q m' : Nat} {w w' : World} {e : Ending} (hr : r = .good t q m') (h : ValE R b N nT r w e w') : GoodT R b nT t q m' w e w' := by subst hr; exact h
theorem readJ_form {L : List SignD} {E : Int} {n d p m : Nat} (h : ¬ (kindAt L p = 1 ∨ kindAt L p = 3 ∨ 7 ≤ kindAt L p)) : readJ L E (n + 1) (.value d) p m = .bad (badF L E 4 p) := by rw [readJ_value, if_pos h]
theorem readJ_deep {L : List SignD} {E : Int} {n d p m : Nat} (h : kindAt L p = 1 ∨ kindAt L p = 3 ∨ 7 ≤ kindAt L p) (h2 : 8 < d) : readJ L E (n + 1) (.value d) p m = .bad (badF L E 6 p) := by rw [readJ_value, if_neg (fun g => g h), if_pos h2]
theorem readJ_many {L : List SignD} {E : Int} {n d p m : Nat} (h : kindAt L p = 1 ∨ kindAt L p = 3 ∨ 7 ≤ kindAt L p) (h2 : ¬ 8 < d) (h3 : 300 ≤ m) : readJ L E (n + 1) (.value d) p m = .bad (badF L E 7 p) := by rw [readJ_value, if_neg (fun g => g h), if_neg h2, if_pos h3]
theorem readJ_go {L : List SignD} {E : Int} {n d p m : Nat} {x : SignD} (hx : L[p]? = some x) (h : kindAt L p = 1 ∨ kindAt L p = 3 ∨ 7 ≤ kindAt L p) (h2 : ¬ 8 < d) (h3 : ¬ 300 ≤ m) : readJ L E (n + 1) (.value d) p m =
    if x.kind = 7 then (if 400 < x.text.size then .bad (badF L E 8 p) else .good (tText x.text) (p + 1) (m + 1))
    else if x.kind = 8 then .good (tInt x.num) (p + 1) (m + 1)
    else if x.kind = 11 then .good tNull (p + 1) (m + 1)
    else if x.kind = 3 then listR L E n d (p + 1) (m + 1)
    else if x.kind = 1 then pairsR L E n d (p + 1) (m + 1)
    else .good (tFlag (x.kind == 9)) (p + 1) (m + 1) := by
  rw [readJ_value, if_neg (fun g => g h), if_neg h2, if_neg h3, hx]
  rfl
def T_valI (L : List SignD) (E : Int) (b n : Nat) : Prop := ∀ (d p m : Nat) (w : World), 1 ≤ d → d ≤ 9 → p ≤ L.length → m ≤ 300 → needJ L p (.value d) ≤ n → RdAt L E b p m flt0 w →
  Calls Tryz.prog 34 #[.pointer (some ⟨b, 0, none⟩), .int .i64 d] w (ValE (RdAt L E b) b L.length (10 - d) (readJ L E n (.value d) p m) w)
def T_listI (L : List SignD) (E : Int) (b n : Nat) : Prop := ∀ (d p m : Nat) (w : World), 1 ≤ d → d ≤ 8 → p ≤ L.length → m ≤ 300 → needJ L p (.list d []) ≤ n → RdAt L E b p m flt0 w →
  Calls Tryz.prog 68 #[.pointer (some ⟨b, 0, none⟩), .int .i64 d] w (ValE (RdAt L E b) b L.length (10 - d) (listR L E n d p m) w)
def T_pairsI (L : List SignD) (E : Int) (b n : Nat) : Prop := ∀ (d p m : Nat) (w : World), 1 ≤ d → d ≤ 8 → p ≤ L.length → m ≤ 300 → needJ L p (.pairs d [] []) ≤ n → RdAt L E b p m flt0 w →
  Calls Tryz.prog 69 #[.pointer (some ⟨b, 0, none⟩), .int .i64 d] w (ValE (RdAt L E b) b L.length (10 - d) (pairsR L E n d p m) w)
theorem c_rd_TextTree (t : ByteArray) (w : World) : Calls Tryz.prog 70 #[.string t] w fun e w' => e = .returned (.agg #[.int .i64 4, .bool false, .int .i64 0, .string t, .slice none 0 0, .slice none 0 0]) ∧ Below w.heap.size w w' := by
  go_enter Tryz.func70, Tryz.ntmps70
  go_wp2_with fail
  exact bodyPost_ret (v := .agg #[.int .i64 4, .bool false, .int .i64 0, .string t, .slice none 0 0, .slice none 0 0]) (by simp only [results, Tryz.results70]; go_simp) rfl ⟨rfl, bel⟩
theorem c_rd_IntTree (x : Int) (w : World) : Calls Tryz.prog 71 #[.int .i64 x] w fun e w' => e = .returned (.agg #[.int .i64 3, .bool false, .int .i64 x, .string ⟨#[]⟩, .slice none 0 0, .slice none 0 0]) ∧ Below w.heap.size w w' := by
  go_enter Tryz.func71, Tryz.ntmps71
  go_wp2_with fail
  exact bodyPost_ret (v := .agg #[.int .i64 3, .bool false, .int .i64 x, .string ⟨#[]⟩, .slice none 0 0, .slice none 0 0]) (by simp only [results, Tryz.results71]; go_simp) rfl ⟨rfl, bel⟩
end Go.Proofs.YtffelpdefjkeaaaGreatDoor
